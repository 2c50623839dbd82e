/- huff.New: a table of the lengths' codes, or that they do not fit. Conditions: the slice reads as numbers, at most 2^44. -/
import Derived.Test.YtihgekpijplfiaaHq
import Derived.Test.YtihgekpijplfiaaRm
import Derived.Test.YtihgekpijplfiaaMp
import Derived.Maps.Own
import Derived.RegionTactic
import Derived.Deep.RegionHeld3
namespace Go.Proofs.Ytihgekpijplfiaa.Hn
set_option linter.unusedVariables false
open Go.RowKit Go.Maps Go.Proofs.YtihgekpijplfiaaW.PrintWords Go.Proofs.YtihgekpijplfiaaW.PrintLast Go.Proofs.YtihgekpijplfiaaW.PrintMore Go.Proofs.Ytihgekpijplfiaa.Hp Go.Proofs.Ytihgekpijplfiaa.Rm Go.Proofs.Ytihgekpijplfiaa.Mp Go.Proofs.Ytihgekpijplfiaa.Fr Go.Proofs.Ytihgekpijplfiaa.Rf
theorem info95 : (Try.prog.info? 95).map (fun i => (i.zero, i.size, i.bytes)) = some (some (.agg #[.int .i64 0, .int .i64 0]), 2, 16) := by kernel_rfl
theorem krf_nz : ∀ (ls : List Int) (n : Nat), nz ls = 0 → krf ls n = 0
  | [], _, _ => rfl
  | l :: ls, n, h => by
    rw [nz_cons] at h
    have h1 : nz ls = 0 := by omega
    have h2 : ¬ 0 < l := fun e => by rw [if_pos e] at h; omega
    rw [krf_cons, krf_nz ls n h1]
    unfold gK
    rw [if_neg (by omega)]
theorem made2 (n : Nat) : madeCells (Value.agg #[.int .i64 0, .int .i64 0]).cells (n * 2) = (cellsOf (List.replicate n (0, 0))).toArray := by
  rw [cellsOf_zero]
  apply Array.toList_inj.1
  apply List.ext_getElem?
  intro i
  simp only [madeCells, Value.cells, Array.toList_map, Array.toList_range, List.getElem?_map]
  by_cases h : i < 2 * n
  · rw [List.getElem?_range (by omega), List.getElem?_replicate, if_pos h]
    have : i % 2 = 0 ∨ i % 2 = 1 := by omega
    rcases this with e | e <;> simp [e]
  · rw [List.getElem?_eq_none (by simp; omega), List.getElem?_eq_none (by simp; omega)]
    rfl
/-- A table on the way: the codes of n digits are done, and of n + 1 digits those of the first k signs. -/
structure Tb (W : World) (p gc gm : Nat) (ls : List Int) (n k : Nat) : Prop where
  box : W.heap[p]? = some (.cells #[.slice (some ⟨gc, 0, none⟩) ls.length ls.length, .map (some gm)] 93 (0, 0))
  codes : W.heap[gc]? = some (.cells (cellsOf (cdL ls n k)).toArray 95 (0, 0))
  signs : IsM W gm (ents ls n ++ lvl ls (n + 1) k)
/-- A table of these lengths: its blocks are from lo on, below hi. -/
def IsT (lo hi : Nat) (W : World) (p : Nat) (ls : List Int) : Prop :=
  ∃ gc gm, lo ≤ p ∧ p < hi ∧ lo ≤ gc ∧ gc < hi ∧ lo ≤ gm ∧ gm < hi ∧ W.heap[p]? = some (.cells #[.slice (some ⟨gc, 0, none⟩) ls.length ls.length, .map (some gm)] 93 (0, 0)) ∧ W.heap[gc]? = some (.cells (cellsOf (cdL ls 15 0)).toArray 95 (0, 0)) ∧ IsM W gm (ents ls 15)
theorem IsT.fr {lo hi p : Nat} {W W1 : World} {ls : List Int} {S : Nat → Prop} (h : IsT lo hi W p ls) (k : Fr W W1 S) (hs : ∀ i, lo ≤ i → i < hi → ¬ S i) : IsT lo hi W1 p ls := by
  obtain ⟨gc, gm, a1, a2, a3, a4, a5, a6, h1, h2, h3⟩ := h
  exact ⟨gc, gm, a1, a2, a3, a4, a5, a6, (k.blk p (blk_lt h1) (hs p a1 a2)).trans h1, (k.blk gc (blk_lt h2) (hs gc a3 a4)).trans h2, h3.fr k (hs gm a5 a6)⟩
/-- One code more: the two stores into the codes. -/
theorem Tb_codes {W : World} {p gc gm : Nat} {ls : List Int} {n k : Nat} (h : Tb W p gc gm ls n k) (hk : k < ls.length) (hl : ls.getD k 0 = ((n + 1 : Nat) : Int)) (hpc : p ≠ gc) (hmc : gm ≠ gc) (y : Int) (hy : y = ((codeOf ls k : Nat) : Int)) :
    let W2 := (W.setCell ⟨gc, k * 2, none⟩ (.int .i64 y)).setCell ⟨gc, k * 2 + 1, none⟩ (.int .i64 ((n : Int) + 1))
    W2.heap[p]? = some (.cells #[.slice (some ⟨gc, 0, none⟩) ls.length ls.length, .map (some gm)] 93 (0, 0)) ∧ W2.heap[gc]? = some (.cells (cellsOf (cdL ls n (k + 1))).toArray 95 (0, 0)) ∧ IsM W2 gm (ents ls n ++ lvl ls (n + 1) k) ∧ Fr W W2 (fun i => i = gc) := by
  intro W2
  have hF : Fr W W2 (fun i => i = gc) := ((Fr.refl W _).setg _ _).setg _ _
  refine ⟨blk_far (blk_far h.box hpc _) hpc _, ?_, h.signs.fr hF hmc, hF⟩
  refine (blk_set (blk_set h.codes _ _) _ _).trans ?_
  rw [cdL_hit ls n k hk hl, cellsOf_set _ _ _ (by rw [cdL_length]; exact hk), hy, Nat.mul_comm k 2]
  simp
theorem Tb_start (w : World) (m : Nat) (ls : List Int) (Z0 : List Value) (hZ0 : Z0 = cellsOf (List.replicate ls.length (0, 0))) :
    Tb ((((w.drewN m).alloc (.cells Z0.toArray 95)).alloc (.map #[] 0)).alloc (.cells #[.slice (some ⟨w.heap.size, 0, none⟩) ls.length ls.length, .map (some (w.heap.size + 1))] 93)) (w.heap.size + 1 + 1) w.heap.size (w.heap.size + 1) ls 0 0 ∧
    Below w.heap.size w ((((w.drewN m).alloc (.cells Z0.toArray 95)).alloc (.map #[] 0)).alloc (.cells #[.slice (some ⟨w.heap.size, 0, none⟩) ls.length ls.length, .map (some (w.heap.size + 1))] 93)) := by
  have s1 : ((w.drewN m).alloc (.cells Z0.toArray 95)).heap.size = w.heap.size + 1 := World.size_alloc _ _
  have s2 : (((w.drewN m).alloc (.cells Z0.toArray 95)).alloc (.map #[] 0)).heap.size = w.heap.size + 1 + 1 := by rw [World.size_alloc, s1]
  refine ⟨⟨?_, ?_, ?_⟩, below_alloc (below_alloc (below_alloc (pw_below_drewN (Below.refl _ _) m) _) _) _⟩
  · rw [← s2]
    exact heap_alloc_new _ _
  · refine blk_alloc (blk_alloc ?_ _) _
    rw [cdL_zero, ← hZ0]
    exact heap_alloc_new (w.drewN m) _
  · refine ⟨#[], 0, ?_, ?_, ?_⟩
    · refine blk_alloc ?_ _
      rw [← s1]
      exact heap_alloc_new _ _
    · simp [ents, lvl]
    · intro x hx
      simp [ents, lvl] at hx
set_option maxHeartbeats 32000000 in
set_option maxRecDepth 100000 in
theorem New_ok (A : Option Addr) (c : Nat) (ls : List Int) (w : World) (hC : Kd.C (Kd.int .i64) w A ls.length ls) (hc : ls.length ≤ c) (hok : okS ls = true) :
    Calls Try.prog 17 #[.slice A ls.length c] w fun e w' => ∃ p, e = .returned (.tuple #[.pointer (some ⟨p, 0, none⟩), .int .i64 0]) ∧ IsT w.heap.size w'.heap.size w' p ls ∧ Below w.heap.size w w' := by
  have hmm := @run_makeMap Try.prog
  have hu93 := Try.underlying93
  unfold okS at hok
  simp only [Bool.and_eq_true, Bool.or_eq_true, decide_eq_true_eq] at hok
  obtain ⟨⟨hin, hl⟩, hcase⟩ := hok
  have hroom := room_calls A c ls w hC hc (by omega)
  rw [hin] at hroom
  simp only [if_true] at hroom
  have hkr : krf ls 15 ≤ 32768 := by
    rcases hcase with (h | h) | h
    · have := krf_nz ls 15 h
      omega
    · omega
    · omega
  have HKR := Aside0.mk hkr
  have hll : (ls.length : Int) ≤ 320 := by omega
  have HROOM := Aside0.mk hroom
  have HC := Aside0.mk hC
  clear hroom hC hkr hc
  have hcs : nz ls = 0 ∨ (nz ls = 1 ∧ krf ls 15 = 16384) ∨ (nz ls = 1 ∧ krf ls 15 = 32768) ∨ (nz ls ≠ 0 ∧ nz ls ≠ 1 ∧ krf ls 15 = 32768) := by
    rcases hcase with (h | h) | h
    · exact .inl h
    · exact .inr (.inl h)
    · by_cases h0 : nz ls = 0
      · exact .inl h0
      · by_cases h1 : nz ls = 1
        · exact .inr (.inr (.inl ⟨h1, h⟩))
        · exact .inr (.inr (.inr ⟨h0, h1, h⟩))
  clear hcase
  generalize hT : krf ls 15 = T at *
  generalize hZ : nz ls = Z at *
  have HTZ := Aside0.mk hT
  clear hZ hT
  obtain ⟨i0, hi, hz, hsz, hby⟩ := info_parts info95
  have hmk := fun (W : World) => run_make (P := Try.prog) W 90 95 i0 _ Try.underlying90 hi hz .i64 .i64 (ls.length : Int) (ls.length : Int) (by omega) (by omega) (by rw [hby]; omega) (by omega)
  simp only [Int.toNat_natCast, hsz, made2] at hmk
  obtain ⟨Z0, hZ0⟩ : ∃ Z0, Z0 = cellsOf (List.replicate ls.length (0, 0)) := ⟨_, rfl⟩
  rw [← hZ0] at hmk
  have HZ0 := Aside0.mk hZ0
  clear hZ0 hi hz hsz hby
  rcases hcs with rfl | ⟨rfl, rfl⟩ | ⟨rfl, rfl⟩ | ⟨h0, h1, rfl⟩
  · go_enter Try.func17, Try.ntmps17
    go_wp2_with fail
    refine HROOM.out.mono ?_
    rintro e w1 ⟨rfl, m1, rfl⟩
    go_wp2_with fail
    have hts := Tb_start w m1 ls Z0 HZ0.out
    generalize ((((w.drewN m1).alloc (.cells Z0.toArray 95)).alloc (.map #[] 0)).alloc (.cells #[.slice (some ⟨w.heap.size, 0, none⟩) ls.length ls.length, .map (some (w.heap.size + 1))] 93)) = w5 at hts ⊢
    obtain ⟨p, hp⟩ : ∃ p, p = w.heap.size + 1 + 1 := ⟨_, rfl⟩
    rw [← hp] at hts ⊢
    obtain ⟨gm, hgm⟩ : ∃ gm, gm = w.heap.size + 1 := ⟨_, rfl⟩
    rw [← hgm] at hts ⊢
    have HT := Aside0.mk hts.1
    have HB := Aside0.mk hts.2
    have HP := Aside0.mk (And.intro hp hgm)
    clear hp hgm hts hmk hmm
    go_loopg [9, 10] 15 (fun gk v9 v10 w' => ∃ n : Nat, v10 = .int .i64 ((n : Int) + 1) ∧ v9 = .int .i64 ((nxt ls n : Nat) : Int) ∧ Aside0 (n + gk = 15) ∧ Aside0 (Tb w' p w.heap.size gm ls n 0) ∧ Aside0 (Below w.heap.size w w'))
    case atStart => exact ⟨0, rfl, rfl, ⟨rfl⟩, HT, HB⟩
    case round =>
      clear HT HB
      obtain ⟨n, rfl, rfl, HK, HT, HB⟩ := hrel
      obtain ⟨go, rfl⟩ : ∃ go : Nat, go = gk := ⟨_, rfl⟩
      obtain ⟨wo, rfl⟩ : ∃ wo : World, wo = wr := ⟨_, rfl⟩
      by_cases hn : n < 15
      · have hn1 : (n : Int) < 15 := by omega
        have hd1 : decide ((n : Int) + 1 ≤ 15) = true := decide_eq_true (by omega)
        have hxn := nxt_le ls n (by omega) (HTZ.out ▸ HKR.out)
        have hp15 : 2 ^ n ≤ 32768 := by
          have : ∀ n < 16, 2 ^ n ≤ 32768 := by decide +kernel
          exact this n (by omega)
        obtain ⟨x, hx⟩ : ∃ x, x = nxt ls n := ⟨_, rfl⟩
        rw [← hx] at hxn
        have hx2 : (x : Int) ≤ 32768 := by omega
        have HX := Aside0.mk hx
        rw [← hx]
        clear hxn hp15 hx
        have HKK := Aside0.mk (show ∀ k, 2 * nxt ls n + cnt (ls.take k) (n + 1) ≤ 32768 from fun k => by
          have h1 := nxt_mid ls n k
          have h2 := nxt_le ls (n + 1) (by omega) (HTZ.out ▸ HKR.out)
          have h3 : ∀ n < 15, 2 ^ (n + 1) ≤ 32768 := by decide +kernel
          have h4 := h3 n hn
          omega)
        go_wp2_with fail
        have HT0 := HT
        go_loopg [9, 58] ls.length (fun gk v9 v58 w' => ∃ k : Nat, v58 = .int .i64 (k : Int) ∧ v9 = .int .i64 ((2 * nxt ls n + cnt (ls.take k) (n + 1) : Nat) : Int) ∧ Aside0 (k + gk = ls.length) ∧ Aside0 (Tb w' p w.heap.size gm ls n k) ∧ Aside0 (Below w.heap.size w w'))
        case atStart => exact ⟨0, rfl, by rw [HX.out]; simp [cnt], ⟨by omega⟩, HT, HB⟩
        case round =>
          clear HT HB HT0
          obtain ⟨k, rfl, rfl, HK2, HT, HB⟩ := hrel
          obtain ⟨wi, rfl⟩ : ∃ wi : World, wi = wr := ⟨_, rfl⟩
          by_cases hk : k < ls.length
          · have hk1 : (k : Int) < (ls.length : Int) := by omega
            have hk0 : (0 : Int) ≤ (k : Int) := by omega
            obtain ⟨ad, ea, hxl⟩ := Kd.at_int (Kd.C_below HC.out HB.out) (k : Int) hk0 hk1
            rw [Int.toNat_natCast] at hxl
            subst ea
            have HY0 := Aside0.mk (HKK.out k)
            by_cases hl : ls.getD k 0 = ((n + 1 : Nat) : Int)
            · have hv : rd ls (k : Int) = (n : Int) + 1 := by rw [rd_getD, hl]; omega
              rw [hv] at hxl
              have HCE := Aside0.mk (codeOf_eq ls n k hl)
              obtain ⟨y, hy⟩ : ∃ y, y = 2 * nxt ls n + cnt (ls.take k) (n + 1) := ⟨_, rfl⟩
              have hy1 : (y : Int) ≤ 32768 := by have := HY0.out; omega
              rw [← hy] at HCE ⊢
              have HY := Aside0.mk hy
              clear hy HY0
              have b0 : wi.cell? ⟨p, 0, none⟩ = some (.slice (some ⟨w.heap.size, 0, none⟩) ls.length ls.length) := (blk_cell HT.out.box 0).trans rfl
              have b1 : wi.cell? ⟨p, 1, none⟩ = some (.map (some gm)) := (blk_cell HT.out.box 1).trans rfl
              have c0 : wi.cell? ⟨w.heap.size, k * 2, none⟩ = some (.int .i64 (cdAt ls n k k).1) := by
                rw [blk_cell HT.out.codes, Nat.mul_comm]
                simpa using cellsOf_get0 _ _ _ (cdL_get ls n k k hk)
              have c1 : wi.cell? ⟨w.heap.size, k * 2 + 1, none⟩ = some (.int .i64 (cdAt ls n k k).2) := by
                rw [blk_cell HT.out.codes, Nat.mul_comm]
                simpa using cellsOf_get1 _ _ _ (cdL_get ls n k k hk)
              have f0 := blk_frozen HT.out.codes (k * 2)
              have f1 := blk_frozen HT.out.codes (k * 2 + 1)
              go_wp2_with fail
              have htc := Tb_codes HT.out hk hl (by have := HP.out; omega) (by have := HP.out; omega) (y : Int) (by rw [HCE.out])
              obtain ⟨W2, hW2⟩ : ∃ W2, W2 = (wi.setCell ⟨w.heap.size, k * 2, none⟩ (.int .i64 (y : Int))).setCell ⟨w.heap.size, k * 2 + 1, none⟩ (.int .i64 ((n : Int) + 1)) := ⟨_, rfl⟩
              simp only [← hW2] at htc
              rw [← hW2]
              clear b0 b1 c0 c1 f0 f1 hW2
              obtain ⟨t1, t2, t3, t4⟩ := htc
              have b0 : W2.cell? ⟨p, 0, none⟩ = some (.slice (some ⟨w.heap.size, 0, none⟩) ls.length ls.length) := (blk_cell t1 0).trans rfl
              have b1 : W2.cell? ⟨p, 1, none⟩ = some (.map (some gm)) := (blk_cell t1 1).trans rfl
              have hcd : cdAt ls n (k + 1) k = ((y : Int), (n : Int) + 1) := by
                unfold cdAt
                rw [if_pos (by omega), hl, HCE.out]
                rfl
              have c0 : W2.cell? ⟨w.heap.size, k * 2, none⟩ = some (.int .i64 (y : Int)) := by
                rw [blk_cell t2, Nat.mul_comm]
                have := cellsOf_get0 _ _ _ (cdL_get ls n (k + 1) k hk)
                rw [hcd] at this
                simpa using this
              have c1 : W2.cell? ⟨w.heap.size, k * 2 + 1, none⟩ = some (.int .i64 ((n : Int) + 1)) := by
                rw [blk_cell t2, Nat.mul_comm]
                have := cellsOf_get1 _ _ _ (cdL_get ls n (k + 1) k hk)
                rw [hcd] at this
                simpa using this
              obtain ⟨W3, hup, hm3, hf3⟩ := update_new (W := W2.drew) (g := gm) t3 ((y : Int), (n : Int) + 1) (k : Int) ⟨WalkArith.wf_i64 (by omega), WalkArith.wf_i64 (by omega)⟩ (by have := ents_new ls n k hk hl; rw [HCE.out] at this; exact this)
              unfold keyV at hup
              have hpg : ¬ p = gm := by have := HP.out; omega
              have hcg : ¬ w.heap.size = gm := by have := HP.out; omega
              have d0 := hf3.cell b0 hpg
              have d1 := hf3.cell b1 hpg
              have d2 := hf3.cell c0 hcg
              have d3 := hf3.cell c1 hcg
              have HM3 := Aside0.mk hm3
              have HF3 := Aside0.mk hf3
              have T1 := Aside0.mk t1
              have T2 := Aside0.mk t2
              have T4 := Aside0.mk t4
              clear t1 t2 t3 t4 hm3 hf3 hcd
              go_region_held3 (fun w' => w'.cell? ⟨p, 0, none⟩ = some (.slice (some ⟨w.heap.size, 0, none⟩) ls.length ls.length) ∧ w'.cell? ⟨p, 1, none⟩ = some (.map (some gm)) ∧ w'.cell? ⟨w.heap.size, k * 2, none⟩ = some (.int .i64 (y : Int)) ∧ w'.cell? ⟨w.heap.size, k * 2 + 1, none⟩ = some (.int .i64 ((n : Int) + 1))) (go_keep) (fail)
              clear b0 b1 c0 c1 d0 d1 d2 d3 hup
              go_wp2_with fail
              have HT3 := Aside0.mk (show Tb W3 p w.heap.size gm ls n (k + 1) from ⟨(HF3.out.blk p (blk_lt T1.out) hpg).trans T1.out, (HF3.out.blk _ (blk_lt T2.out) hcg).trans T2.out, by rw [lvl_succ_hit ls (n + 1) k hl, ← List.append_assoc, HCE.out]; exact HM3.out⟩)
              have HB3 := Aside0.mk (show Below w.heap.size w W3 from Fr.below (Fr.below HB.out T4.out (fun i hi => Nat.le_of_eq hi.symm) HB.out.size) HF3.out.undrew (fun i hi => by have := HP.out; have hi : i = gm := hi; omega) (Nat.le_trans HB.out.size T4.out.size))
              have hct := cnt_take_succ ls (n + 1) k hk
              rw [if_pos hl] at hct
              obtain ⟨g', rfl⟩ : ∃ g', gk = g' + 1 := ⟨gk - 1, by have := HK2.out; omega⟩
              go_roundg g'
              case measure => omega
              case rel => exact ⟨k + 1, by go_num, by rw [hct]; congr 1; have := HY.out; omega, ⟨by have := HK2.out; omega⟩, HT3, HB3⟩
            · have hv : ((rd ls (k : Int) == (n : Int) + 1)) = false := by
                rw [rd_getD]
                exact beq_eq_false_iff_ne.2 (fun e => hl (by rw [e]; rfl))
              go_wp2_with fail
              have hct := cnt_take_succ ls (n + 1) k hk
              rw [if_neg hl] at hct
              have HT3 := Aside0.mk (show Tb wi p w.heap.size gm ls n (k + 1) from ⟨HT.out.box, by rw [cdL_miss ls n k hl]; exact HT.out.codes, by rw [lvl_succ_miss ls (n + 1) k hl]; exact HT.out.signs⟩)
              obtain ⟨g', rfl⟩ : ∃ g', gk = g' + 1 := ⟨gk - 1, by have := HK2.out; omega⟩
              go_roundg g'
              case measure => omega
              case rel => exact ⟨k + 1, by go_num, by rw [hct]; rfl, ⟨by have := HK2.out; omega⟩, HT3, HB⟩
          · obtain rfl : k = ls.length := by have := HK2.out; omega
            have hne := nxt_end ls n
            rw [hne]
            have HT3 := Aside0.mk (show Tb wi p w.heap.size gm ls (n + 1) 0 from ⟨HT.out.box, by rw [← cdL_next ls n]; exact HT.out.codes, by
              have := HT.out.signs
              show IsM _ _ (ents ls (n + 1) ++ lvl ls (n + 1 + 1) 0)
              rw [show lvl ls (n + 1 + 1) 0 = [] from rfl, List.append_nil]
              exact this⟩)
            clear hne
            go_wp2_with fail
            obtain ⟨g', rfl⟩ : ∃ g', go = g' + 1 := ⟨go - 1, by have := HK.out; omega⟩
            go_roundg g'
            case measure => omega
            case rel => exact ⟨n + 1, by go_num, rfl, ⟨by have := HK.out; omega⟩, HT3, HB⟩
      · obtain rfl : n = 15 := by have := HK.out; omega
        clear HK
        go_wp2_with fail
        go_ret2
        refine ⟨p, rfl, ⟨w.heap.size, gm, by have := HP.out; omega, blk_lt HT.out.box, Nat.le_refl _, blk_lt HT.out.codes, by have := HP.out; omega, HT.out.signs.lt, HT.out.box, HT.out.codes, ?_⟩, HB.out⟩
        have := HT.out.signs
        rw [show lvl ls (15 + 1) 0 = [] from rfl, List.append_nil] at this
        exact this
  · go_enter Try.func17, Try.ntmps17
    go_wp2_with fail
    refine HROOM.out.mono ?_
    rintro e w1 ⟨rfl, m1, rfl⟩
    go_wp2_with fail
    have hts := Tb_start w m1 ls Z0 HZ0.out
    generalize ((((w.drewN m1).alloc (.cells Z0.toArray 95)).alloc (.map #[] 0)).alloc (.cells #[.slice (some ⟨w.heap.size, 0, none⟩) ls.length ls.length, .map (some (w.heap.size + 1))] 93)) = w5 at hts ⊢
    obtain ⟨p, hp⟩ : ∃ p, p = w.heap.size + 1 + 1 := ⟨_, rfl⟩
    rw [← hp] at hts ⊢
    obtain ⟨gm, hgm⟩ : ∃ gm, gm = w.heap.size + 1 := ⟨_, rfl⟩
    rw [← hgm] at hts ⊢
    have HT := Aside0.mk hts.1
    have HB := Aside0.mk hts.2
    have HP := Aside0.mk (And.intro hp hgm)
    clear hp hgm hts hmk hmm
    go_loopg [9, 10] 15 (fun gk v9 v10 w' => ∃ n : Nat, v10 = .int .i64 ((n : Int) + 1) ∧ v9 = .int .i64 ((nxt ls n : Nat) : Int) ∧ Aside0 (n + gk = 15) ∧ Aside0 (Tb w' p w.heap.size gm ls n 0) ∧ Aside0 (Below w.heap.size w w'))
    case atStart => exact ⟨0, rfl, rfl, ⟨rfl⟩, HT, HB⟩
    case round =>
      clear HT HB
      obtain ⟨n, rfl, rfl, HK, HT, HB⟩ := hrel
      obtain ⟨go, rfl⟩ : ∃ go : Nat, go = gk := ⟨_, rfl⟩
      obtain ⟨wo, rfl⟩ : ∃ wo : World, wo = wr := ⟨_, rfl⟩
      by_cases hn : n < 15
      · have hn1 : (n : Int) < 15 := by omega
        have hd1 : decide ((n : Int) + 1 ≤ 15) = true := decide_eq_true (by omega)
        have hxn := nxt_le ls n (by omega) (HTZ.out ▸ HKR.out)
        have hp15 : 2 ^ n ≤ 32768 := by
          have : ∀ n < 16, 2 ^ n ≤ 32768 := by decide +kernel
          exact this n (by omega)
        obtain ⟨x, hx⟩ : ∃ x, x = nxt ls n := ⟨_, rfl⟩
        rw [← hx] at hxn
        have hx2 : (x : Int) ≤ 32768 := by omega
        have HX := Aside0.mk hx
        rw [← hx]
        clear hxn hp15 hx
        have HKK := Aside0.mk (show ∀ k, 2 * nxt ls n + cnt (ls.take k) (n + 1) ≤ 32768 from fun k => by
          have h1 := nxt_mid ls n k
          have h2 := nxt_le ls (n + 1) (by omega) (HTZ.out ▸ HKR.out)
          have h3 : ∀ n < 15, 2 ^ (n + 1) ≤ 32768 := by decide +kernel
          have h4 := h3 n hn
          omega)
        go_wp2_with fail
        have HT0 := HT
        go_loopg [9, 58] ls.length (fun gk v9 v58 w' => ∃ k : Nat, v58 = .int .i64 (k : Int) ∧ v9 = .int .i64 ((2 * nxt ls n + cnt (ls.take k) (n + 1) : Nat) : Int) ∧ Aside0 (k + gk = ls.length) ∧ Aside0 (Tb w' p w.heap.size gm ls n k) ∧ Aside0 (Below w.heap.size w w'))
        case atStart => exact ⟨0, rfl, by rw [HX.out]; simp [cnt], ⟨by omega⟩, HT, HB⟩
        case round =>
          clear HT HB HT0
          obtain ⟨k, rfl, rfl, HK2, HT, HB⟩ := hrel
          obtain ⟨wi, rfl⟩ : ∃ wi : World, wi = wr := ⟨_, rfl⟩
          by_cases hk : k < ls.length
          · have hk1 : (k : Int) < (ls.length : Int) := by omega
            have hk0 : (0 : Int) ≤ (k : Int) := by omega
            obtain ⟨ad, ea, hxl⟩ := Kd.at_int (Kd.C_below HC.out HB.out) (k : Int) hk0 hk1
            rw [Int.toNat_natCast] at hxl
            subst ea
            have HY0 := Aside0.mk (HKK.out k)
            by_cases hl : ls.getD k 0 = ((n + 1 : Nat) : Int)
            · have hv : rd ls (k : Int) = (n : Int) + 1 := by rw [rd_getD, hl]; omega
              rw [hv] at hxl
              have HCE := Aside0.mk (codeOf_eq ls n k hl)
              obtain ⟨y, hy⟩ : ∃ y, y = 2 * nxt ls n + cnt (ls.take k) (n + 1) := ⟨_, rfl⟩
              have hy1 : (y : Int) ≤ 32768 := by have := HY0.out; omega
              rw [← hy] at HCE ⊢
              have HY := Aside0.mk hy
              clear hy HY0
              have b0 : wi.cell? ⟨p, 0, none⟩ = some (.slice (some ⟨w.heap.size, 0, none⟩) ls.length ls.length) := (blk_cell HT.out.box 0).trans rfl
              have b1 : wi.cell? ⟨p, 1, none⟩ = some (.map (some gm)) := (blk_cell HT.out.box 1).trans rfl
              have c0 : wi.cell? ⟨w.heap.size, k * 2, none⟩ = some (.int .i64 (cdAt ls n k k).1) := by
                rw [blk_cell HT.out.codes, Nat.mul_comm]
                simpa using cellsOf_get0 _ _ _ (cdL_get ls n k k hk)
              have c1 : wi.cell? ⟨w.heap.size, k * 2 + 1, none⟩ = some (.int .i64 (cdAt ls n k k).2) := by
                rw [blk_cell HT.out.codes, Nat.mul_comm]
                simpa using cellsOf_get1 _ _ _ (cdL_get ls n k k hk)
              have f0 := blk_frozen HT.out.codes (k * 2)
              have f1 := blk_frozen HT.out.codes (k * 2 + 1)
              go_wp2_with fail
              have htc := Tb_codes HT.out hk hl (by have := HP.out; omega) (by have := HP.out; omega) (y : Int) (by rw [HCE.out])
              obtain ⟨W2, hW2⟩ : ∃ W2, W2 = (wi.setCell ⟨w.heap.size, k * 2, none⟩ (.int .i64 (y : Int))).setCell ⟨w.heap.size, k * 2 + 1, none⟩ (.int .i64 ((n : Int) + 1)) := ⟨_, rfl⟩
              simp only [← hW2] at htc
              rw [← hW2]
              clear b0 b1 c0 c1 f0 f1 hW2
              obtain ⟨t1, t2, t3, t4⟩ := htc
              have b0 : W2.cell? ⟨p, 0, none⟩ = some (.slice (some ⟨w.heap.size, 0, none⟩) ls.length ls.length) := (blk_cell t1 0).trans rfl
              have b1 : W2.cell? ⟨p, 1, none⟩ = some (.map (some gm)) := (blk_cell t1 1).trans rfl
              have hcd : cdAt ls n (k + 1) k = ((y : Int), (n : Int) + 1) := by
                unfold cdAt
                rw [if_pos (by omega), hl, HCE.out]
                rfl
              have c0 : W2.cell? ⟨w.heap.size, k * 2, none⟩ = some (.int .i64 (y : Int)) := by
                rw [blk_cell t2, Nat.mul_comm]
                have := cellsOf_get0 _ _ _ (cdL_get ls n (k + 1) k hk)
                rw [hcd] at this
                simpa using this
              have c1 : W2.cell? ⟨w.heap.size, k * 2 + 1, none⟩ = some (.int .i64 ((n : Int) + 1)) := by
                rw [blk_cell t2, Nat.mul_comm]
                have := cellsOf_get1 _ _ _ (cdL_get ls n (k + 1) k hk)
                rw [hcd] at this
                simpa using this
              obtain ⟨W3, hup, hm3, hf3⟩ := update_new (W := W2.drew) (g := gm) t3 ((y : Int), (n : Int) + 1) (k : Int) ⟨WalkArith.wf_i64 (by omega), WalkArith.wf_i64 (by omega)⟩ (by have := ents_new ls n k hk hl; rw [HCE.out] at this; exact this)
              unfold keyV at hup
              have hpg : ¬ p = gm := by have := HP.out; omega
              have hcg : ¬ w.heap.size = gm := by have := HP.out; omega
              have d0 := hf3.cell b0 hpg
              have d1 := hf3.cell b1 hpg
              have d2 := hf3.cell c0 hcg
              have d3 := hf3.cell c1 hcg
              have HM3 := Aside0.mk hm3
              have HF3 := Aside0.mk hf3
              have T1 := Aside0.mk t1
              have T2 := Aside0.mk t2
              have T4 := Aside0.mk t4
              clear t1 t2 t3 t4 hm3 hf3 hcd
              go_region_held3 (fun w' => w'.cell? ⟨p, 0, none⟩ = some (.slice (some ⟨w.heap.size, 0, none⟩) ls.length ls.length) ∧ w'.cell? ⟨p, 1, none⟩ = some (.map (some gm)) ∧ w'.cell? ⟨w.heap.size, k * 2, none⟩ = some (.int .i64 (y : Int)) ∧ w'.cell? ⟨w.heap.size, k * 2 + 1, none⟩ = some (.int .i64 ((n : Int) + 1))) (go_keep) (fail)
              clear b0 b1 c0 c1 d0 d1 d2 d3 hup
              go_wp2_with fail
              have HT3 := Aside0.mk (show Tb W3 p w.heap.size gm ls n (k + 1) from ⟨(HF3.out.blk p (blk_lt T1.out) hpg).trans T1.out, (HF3.out.blk _ (blk_lt T2.out) hcg).trans T2.out, by rw [lvl_succ_hit ls (n + 1) k hl, ← List.append_assoc, HCE.out]; exact HM3.out⟩)
              have HB3 := Aside0.mk (show Below w.heap.size w W3 from Fr.below (Fr.below HB.out T4.out (fun i hi => Nat.le_of_eq hi.symm) HB.out.size) HF3.out.undrew (fun i hi => by have := HP.out; have hi : i = gm := hi; omega) (Nat.le_trans HB.out.size T4.out.size))
              have hct := cnt_take_succ ls (n + 1) k hk
              rw [if_pos hl] at hct
              obtain ⟨g', rfl⟩ : ∃ g', gk = g' + 1 := ⟨gk - 1, by have := HK2.out; omega⟩
              go_roundg g'
              case measure => omega
              case rel => exact ⟨k + 1, by go_num, by rw [hct]; congr 1; have := HY.out; omega, ⟨by have := HK2.out; omega⟩, HT3, HB3⟩
            · have hv : ((rd ls (k : Int) == (n : Int) + 1)) = false := by
                rw [rd_getD]
                exact beq_eq_false_iff_ne.2 (fun e => hl (by rw [e]; rfl))
              go_wp2_with fail
              have hct := cnt_take_succ ls (n + 1) k hk
              rw [if_neg hl] at hct
              have HT3 := Aside0.mk (show Tb wi p w.heap.size gm ls n (k + 1) from ⟨HT.out.box, by rw [cdL_miss ls n k hl]; exact HT.out.codes, by rw [lvl_succ_miss ls (n + 1) k hl]; exact HT.out.signs⟩)
              obtain ⟨g', rfl⟩ : ∃ g', gk = g' + 1 := ⟨gk - 1, by have := HK2.out; omega⟩
              go_roundg g'
              case measure => omega
              case rel => exact ⟨k + 1, by go_num, by rw [hct]; rfl, ⟨by have := HK2.out; omega⟩, HT3, HB⟩
          · obtain rfl : k = ls.length := by have := HK2.out; omega
            have hne := nxt_end ls n
            rw [hne]
            have HT3 := Aside0.mk (show Tb wi p w.heap.size gm ls (n + 1) 0 from ⟨HT.out.box, by rw [← cdL_next ls n]; exact HT.out.codes, by
              have := HT.out.signs
              show IsM _ _ (ents ls (n + 1) ++ lvl ls (n + 1 + 1) 0)
              rw [show lvl ls (n + 1 + 1) 0 = [] from rfl, List.append_nil]
              exact this⟩)
            clear hne
            go_wp2_with fail
            obtain ⟨g', rfl⟩ : ∃ g', go = g' + 1 := ⟨go - 1, by have := HK.out; omega⟩
            go_roundg g'
            case measure => omega
            case rel => exact ⟨n + 1, by go_num, rfl, ⟨by have := HK.out; omega⟩, HT3, HB⟩
      · obtain rfl : n = 15 := by have := HK.out; omega
        clear HK
        go_wp2_with fail
        go_ret2
        refine ⟨p, rfl, ⟨w.heap.size, gm, by have := HP.out; omega, blk_lt HT.out.box, Nat.le_refl _, blk_lt HT.out.codes, by have := HP.out; omega, HT.out.signs.lt, HT.out.box, HT.out.codes, ?_⟩, HB.out⟩
        have := HT.out.signs
        rw [show lvl ls (15 + 1) 0 = [] from rfl, List.append_nil] at this
        exact this
  · go_enter Try.func17, Try.ntmps17
    go_wp2_with fail
    refine HROOM.out.mono ?_
    rintro e w1 ⟨rfl, m1, rfl⟩
    go_wp2_with fail
    have hts := Tb_start w m1 ls Z0 HZ0.out
    generalize ((((w.drewN m1).alloc (.cells Z0.toArray 95)).alloc (.map #[] 0)).alloc (.cells #[.slice (some ⟨w.heap.size, 0, none⟩) ls.length ls.length, .map (some (w.heap.size + 1))] 93)) = w5 at hts ⊢
    obtain ⟨p, hp⟩ : ∃ p, p = w.heap.size + 1 + 1 := ⟨_, rfl⟩
    rw [← hp] at hts ⊢
    obtain ⟨gm, hgm⟩ : ∃ gm, gm = w.heap.size + 1 := ⟨_, rfl⟩
    rw [← hgm] at hts ⊢
    have HT := Aside0.mk hts.1
    have HB := Aside0.mk hts.2
    have HP := Aside0.mk (And.intro hp hgm)
    clear hp hgm hts hmk hmm
    go_loopg [9, 10] 15 (fun gk v9 v10 w' => ∃ n : Nat, v10 = .int .i64 ((n : Int) + 1) ∧ v9 = .int .i64 ((nxt ls n : Nat) : Int) ∧ Aside0 (n + gk = 15) ∧ Aside0 (Tb w' p w.heap.size gm ls n 0) ∧ Aside0 (Below w.heap.size w w'))
    case atStart => exact ⟨0, rfl, rfl, ⟨rfl⟩, HT, HB⟩
    case round =>
      clear HT HB
      obtain ⟨n, rfl, rfl, HK, HT, HB⟩ := hrel
      obtain ⟨go, rfl⟩ : ∃ go : Nat, go = gk := ⟨_, rfl⟩
      obtain ⟨wo, rfl⟩ : ∃ wo : World, wo = wr := ⟨_, rfl⟩
      by_cases hn : n < 15
      · have hn1 : (n : Int) < 15 := by omega
        have hd1 : decide ((n : Int) + 1 ≤ 15) = true := decide_eq_true (by omega)
        have hxn := nxt_le ls n (by omega) (HTZ.out ▸ HKR.out)
        have hp15 : 2 ^ n ≤ 32768 := by
          have : ∀ n < 16, 2 ^ n ≤ 32768 := by decide +kernel
          exact this n (by omega)
        obtain ⟨x, hx⟩ : ∃ x, x = nxt ls n := ⟨_, rfl⟩
        rw [← hx] at hxn
        have hx2 : (x : Int) ≤ 32768 := by omega
        have HX := Aside0.mk hx
        rw [← hx]
        clear hxn hp15 hx
        have HKK := Aside0.mk (show ∀ k, 2 * nxt ls n + cnt (ls.take k) (n + 1) ≤ 32768 from fun k => by
          have h1 := nxt_mid ls n k
          have h2 := nxt_le ls (n + 1) (by omega) (HTZ.out ▸ HKR.out)
          have h3 : ∀ n < 15, 2 ^ (n + 1) ≤ 32768 := by decide +kernel
          have h4 := h3 n hn
          omega)
        go_wp2_with fail
        have HT0 := HT
        go_loopg [9, 58] ls.length (fun gk v9 v58 w' => ∃ k : Nat, v58 = .int .i64 (k : Int) ∧ v9 = .int .i64 ((2 * nxt ls n + cnt (ls.take k) (n + 1) : Nat) : Int) ∧ Aside0 (k + gk = ls.length) ∧ Aside0 (Tb w' p w.heap.size gm ls n k) ∧ Aside0 (Below w.heap.size w w'))
        case atStart => exact ⟨0, rfl, by rw [HX.out]; simp [cnt], ⟨by omega⟩, HT, HB⟩
        case round =>
          clear HT HB HT0
          obtain ⟨k, rfl, rfl, HK2, HT, HB⟩ := hrel
          obtain ⟨wi, rfl⟩ : ∃ wi : World, wi = wr := ⟨_, rfl⟩
          by_cases hk : k < ls.length
          · have hk1 : (k : Int) < (ls.length : Int) := by omega
            have hk0 : (0 : Int) ≤ (k : Int) := by omega
            obtain ⟨ad, ea, hxl⟩ := Kd.at_int (Kd.C_below HC.out HB.out) (k : Int) hk0 hk1
            rw [Int.toNat_natCast] at hxl
            subst ea
            have HY0 := Aside0.mk (HKK.out k)
            by_cases hl : ls.getD k 0 = ((n + 1 : Nat) : Int)
            · have hv : rd ls (k : Int) = (n : Int) + 1 := by rw [rd_getD, hl]; omega
              rw [hv] at hxl
              have HCE := Aside0.mk (codeOf_eq ls n k hl)
              obtain ⟨y, hy⟩ : ∃ y, y = 2 * nxt ls n + cnt (ls.take k) (n + 1) := ⟨_, rfl⟩
              have hy1 : (y : Int) ≤ 32768 := by have := HY0.out; omega
              rw [← hy] at HCE ⊢
              have HY := Aside0.mk hy
              clear hy HY0
              have b0 : wi.cell? ⟨p, 0, none⟩ = some (.slice (some ⟨w.heap.size, 0, none⟩) ls.length ls.length) := (blk_cell HT.out.box 0).trans rfl
              have b1 : wi.cell? ⟨p, 1, none⟩ = some (.map (some gm)) := (blk_cell HT.out.box 1).trans rfl
              have c0 : wi.cell? ⟨w.heap.size, k * 2, none⟩ = some (.int .i64 (cdAt ls n k k).1) := by
                rw [blk_cell HT.out.codes, Nat.mul_comm]
                simpa using cellsOf_get0 _ _ _ (cdL_get ls n k k hk)
              have c1 : wi.cell? ⟨w.heap.size, k * 2 + 1, none⟩ = some (.int .i64 (cdAt ls n k k).2) := by
                rw [blk_cell HT.out.codes, Nat.mul_comm]
                simpa using cellsOf_get1 _ _ _ (cdL_get ls n k k hk)
              have f0 := blk_frozen HT.out.codes (k * 2)
              have f1 := blk_frozen HT.out.codes (k * 2 + 1)
              go_wp2_with fail
              have htc := Tb_codes HT.out hk hl (by have := HP.out; omega) (by have := HP.out; omega) (y : Int) (by rw [HCE.out])
              obtain ⟨W2, hW2⟩ : ∃ W2, W2 = (wi.setCell ⟨w.heap.size, k * 2, none⟩ (.int .i64 (y : Int))).setCell ⟨w.heap.size, k * 2 + 1, none⟩ (.int .i64 ((n : Int) + 1)) := ⟨_, rfl⟩
              simp only [← hW2] at htc
              rw [← hW2]
              clear b0 b1 c0 c1 f0 f1 hW2
              obtain ⟨t1, t2, t3, t4⟩ := htc
              have b0 : W2.cell? ⟨p, 0, none⟩ = some (.slice (some ⟨w.heap.size, 0, none⟩) ls.length ls.length) := (blk_cell t1 0).trans rfl
              have b1 : W2.cell? ⟨p, 1, none⟩ = some (.map (some gm)) := (blk_cell t1 1).trans rfl
              have hcd : cdAt ls n (k + 1) k = ((y : Int), (n : Int) + 1) := by
                unfold cdAt
                rw [if_pos (by omega), hl, HCE.out]
                rfl
              have c0 : W2.cell? ⟨w.heap.size, k * 2, none⟩ = some (.int .i64 (y : Int)) := by
                rw [blk_cell t2, Nat.mul_comm]
                have := cellsOf_get0 _ _ _ (cdL_get ls n (k + 1) k hk)
                rw [hcd] at this
                simpa using this
              have c1 : W2.cell? ⟨w.heap.size, k * 2 + 1, none⟩ = some (.int .i64 ((n : Int) + 1)) := by
                rw [blk_cell t2, Nat.mul_comm]
                have := cellsOf_get1 _ _ _ (cdL_get ls n (k + 1) k hk)
                rw [hcd] at this
                simpa using this
              obtain ⟨W3, hup, hm3, hf3⟩ := update_new (W := W2.drew) (g := gm) t3 ((y : Int), (n : Int) + 1) (k : Int) ⟨WalkArith.wf_i64 (by omega), WalkArith.wf_i64 (by omega)⟩ (by have := ents_new ls n k hk hl; rw [HCE.out] at this; exact this)
              unfold keyV at hup
              have hpg : ¬ p = gm := by have := HP.out; omega
              have hcg : ¬ w.heap.size = gm := by have := HP.out; omega
              have d0 := hf3.cell b0 hpg
              have d1 := hf3.cell b1 hpg
              have d2 := hf3.cell c0 hcg
              have d3 := hf3.cell c1 hcg
              have HM3 := Aside0.mk hm3
              have HF3 := Aside0.mk hf3
              have T1 := Aside0.mk t1
              have T2 := Aside0.mk t2
              have T4 := Aside0.mk t4
              clear t1 t2 t3 t4 hm3 hf3 hcd
              go_region_held3 (fun w' => w'.cell? ⟨p, 0, none⟩ = some (.slice (some ⟨w.heap.size, 0, none⟩) ls.length ls.length) ∧ w'.cell? ⟨p, 1, none⟩ = some (.map (some gm)) ∧ w'.cell? ⟨w.heap.size, k * 2, none⟩ = some (.int .i64 (y : Int)) ∧ w'.cell? ⟨w.heap.size, k * 2 + 1, none⟩ = some (.int .i64 ((n : Int) + 1))) (go_keep) (fail)
              clear b0 b1 c0 c1 d0 d1 d2 d3 hup
              go_wp2_with fail
              have HT3 := Aside0.mk (show Tb W3 p w.heap.size gm ls n (k + 1) from ⟨(HF3.out.blk p (blk_lt T1.out) hpg).trans T1.out, (HF3.out.blk _ (blk_lt T2.out) hcg).trans T2.out, by rw [lvl_succ_hit ls (n + 1) k hl, ← List.append_assoc, HCE.out]; exact HM3.out⟩)
              have HB3 := Aside0.mk (show Below w.heap.size w W3 from Fr.below (Fr.below HB.out T4.out (fun i hi => Nat.le_of_eq hi.symm) HB.out.size) HF3.out.undrew (fun i hi => by have := HP.out; have hi : i = gm := hi; omega) (Nat.le_trans HB.out.size T4.out.size))
              have hct := cnt_take_succ ls (n + 1) k hk
              rw [if_pos hl] at hct
              obtain ⟨g', rfl⟩ : ∃ g', gk = g' + 1 := ⟨gk - 1, by have := HK2.out; omega⟩
              go_roundg g'
              case measure => omega
              case rel => exact ⟨k + 1, by go_num, by rw [hct]; congr 1; have := HY.out; omega, ⟨by have := HK2.out; omega⟩, HT3, HB3⟩
            · have hv : ((rd ls (k : Int) == (n : Int) + 1)) = false := by
                rw [rd_getD]
                exact beq_eq_false_iff_ne.2 (fun e => hl (by rw [e]; rfl))
              go_wp2_with fail
              have hct := cnt_take_succ ls (n + 1) k hk
              rw [if_neg hl] at hct
              have HT3 := Aside0.mk (show Tb wi p w.heap.size gm ls n (k + 1) from ⟨HT.out.box, by rw [cdL_miss ls n k hl]; exact HT.out.codes, by rw [lvl_succ_miss ls (n + 1) k hl]; exact HT.out.signs⟩)
              obtain ⟨g', rfl⟩ : ∃ g', gk = g' + 1 := ⟨gk - 1, by have := HK2.out; omega⟩
              go_roundg g'
              case measure => omega
              case rel => exact ⟨k + 1, by go_num, by rw [hct]; rfl, ⟨by have := HK2.out; omega⟩, HT3, HB⟩
          · obtain rfl : k = ls.length := by have := HK2.out; omega
            have hne := nxt_end ls n
            rw [hne]
            have HT3 := Aside0.mk (show Tb wi p w.heap.size gm ls (n + 1) 0 from ⟨HT.out.box, by rw [← cdL_next ls n]; exact HT.out.codes, by
              have := HT.out.signs
              show IsM _ _ (ents ls (n + 1) ++ lvl ls (n + 1 + 1) 0)
              rw [show lvl ls (n + 1 + 1) 0 = [] from rfl, List.append_nil]
              exact this⟩)
            clear hne
            go_wp2_with fail
            obtain ⟨g', rfl⟩ : ∃ g', go = g' + 1 := ⟨go - 1, by have := HK.out; omega⟩
            go_roundg g'
            case measure => omega
            case rel => exact ⟨n + 1, by go_num, rfl, ⟨by have := HK.out; omega⟩, HT3, HB⟩
      · obtain rfl : n = 15 := by have := HK.out; omega
        clear HK
        go_wp2_with fail
        go_ret2
        refine ⟨p, rfl, ⟨w.heap.size, gm, by have := HP.out; omega, blk_lt HT.out.box, Nat.le_refl _, blk_lt HT.out.codes, by have := HP.out; omega, HT.out.signs.lt, HT.out.box, HT.out.codes, ?_⟩, HB.out⟩
        have := HT.out.signs
        rw [show lvl ls (15 + 1) 0 = [] from rfl, List.append_nil] at this
        exact this
  · have z0 : ((Z : Int) == 0) = false := by simp; omega
    have z1 : ((Z : Int) == 1) = false := by simp; omega
    clear h0 h1
    go_enter Try.func17, Try.ntmps17
    go_wp2_with fail
    refine HROOM.out.mono ?_
    rintro e w1 ⟨rfl, m1, rfl⟩
    go_wp2_with fail
    have hts := Tb_start w m1 ls Z0 HZ0.out
    generalize ((((w.drewN m1).alloc (.cells Z0.toArray 95)).alloc (.map #[] 0)).alloc (.cells #[.slice (some ⟨w.heap.size, 0, none⟩) ls.length ls.length, .map (some (w.heap.size + 1))] 93)) = w5 at hts ⊢
    obtain ⟨p, hp⟩ : ∃ p, p = w.heap.size + 1 + 1 := ⟨_, rfl⟩
    rw [← hp] at hts ⊢
    obtain ⟨gm, hgm⟩ : ∃ gm, gm = w.heap.size + 1 := ⟨_, rfl⟩
    rw [← hgm] at hts ⊢
    have HT := Aside0.mk hts.1
    have HB := Aside0.mk hts.2
    have HP := Aside0.mk (And.intro hp hgm)
    clear hp hgm hts hmk hmm
    go_loopg [9, 10] 15 (fun gk v9 v10 w' => ∃ n : Nat, v10 = .int .i64 ((n : Int) + 1) ∧ v9 = .int .i64 ((nxt ls n : Nat) : Int) ∧ Aside0 (n + gk = 15) ∧ Aside0 (Tb w' p w.heap.size gm ls n 0) ∧ Aside0 (Below w.heap.size w w'))
    case atStart => exact ⟨0, rfl, rfl, ⟨rfl⟩, HT, HB⟩
    case round =>
      clear HT HB
      obtain ⟨n, rfl, rfl, HK, HT, HB⟩ := hrel
      obtain ⟨go, rfl⟩ : ∃ go : Nat, go = gk := ⟨_, rfl⟩
      obtain ⟨wo, rfl⟩ : ∃ wo : World, wo = wr := ⟨_, rfl⟩
      by_cases hn : n < 15
      · have hn1 : (n : Int) < 15 := by omega
        have hd1 : decide ((n : Int) + 1 ≤ 15) = true := decide_eq_true (by omega)
        have hxn := nxt_le ls n (by omega) (HTZ.out ▸ HKR.out)
        have hp15 : 2 ^ n ≤ 32768 := by
          have : ∀ n < 16, 2 ^ n ≤ 32768 := by decide +kernel
          exact this n (by omega)
        obtain ⟨x, hx⟩ : ∃ x, x = nxt ls n := ⟨_, rfl⟩
        rw [← hx] at hxn
        have hx2 : (x : Int) ≤ 32768 := by omega
        have HX := Aside0.mk hx
        rw [← hx]
        clear hxn hp15 hx
        have HKK := Aside0.mk (show ∀ k, 2 * nxt ls n + cnt (ls.take k) (n + 1) ≤ 32768 from fun k => by
          have h1 := nxt_mid ls n k
          have h2 := nxt_le ls (n + 1) (by omega) (HTZ.out ▸ HKR.out)
          have h3 : ∀ n < 15, 2 ^ (n + 1) ≤ 32768 := by decide +kernel
          have h4 := h3 n hn
          omega)
        go_wp2_with fail
        have HT0 := HT
        go_loopg [9, 58] ls.length (fun gk v9 v58 w' => ∃ k : Nat, v58 = .int .i64 (k : Int) ∧ v9 = .int .i64 ((2 * nxt ls n + cnt (ls.take k) (n + 1) : Nat) : Int) ∧ Aside0 (k + gk = ls.length) ∧ Aside0 (Tb w' p w.heap.size gm ls n k) ∧ Aside0 (Below w.heap.size w w'))
        case atStart => exact ⟨0, rfl, by rw [HX.out]; simp [cnt], ⟨by omega⟩, HT, HB⟩
        case round =>
          clear HT HB HT0
          obtain ⟨k, rfl, rfl, HK2, HT, HB⟩ := hrel
          obtain ⟨wi, rfl⟩ : ∃ wi : World, wi = wr := ⟨_, rfl⟩
          by_cases hk : k < ls.length
          · have hk1 : (k : Int) < (ls.length : Int) := by omega
            have hk0 : (0 : Int) ≤ (k : Int) := by omega
            obtain ⟨ad, ea, hxl⟩ := Kd.at_int (Kd.C_below HC.out HB.out) (k : Int) hk0 hk1
            rw [Int.toNat_natCast] at hxl
            subst ea
            have HY0 := Aside0.mk (HKK.out k)
            by_cases hl : ls.getD k 0 = ((n + 1 : Nat) : Int)
            · have hv : rd ls (k : Int) = (n : Int) + 1 := by rw [rd_getD, hl]; omega
              rw [hv] at hxl
              have HCE := Aside0.mk (codeOf_eq ls n k hl)
              obtain ⟨y, hy⟩ : ∃ y, y = 2 * nxt ls n + cnt (ls.take k) (n + 1) := ⟨_, rfl⟩
              have hy1 : (y : Int) ≤ 32768 := by have := HY0.out; omega
              rw [← hy] at HCE ⊢
              have HY := Aside0.mk hy
              clear hy HY0
              have b0 : wi.cell? ⟨p, 0, none⟩ = some (.slice (some ⟨w.heap.size, 0, none⟩) ls.length ls.length) := (blk_cell HT.out.box 0).trans rfl
              have b1 : wi.cell? ⟨p, 1, none⟩ = some (.map (some gm)) := (blk_cell HT.out.box 1).trans rfl
              have c0 : wi.cell? ⟨w.heap.size, k * 2, none⟩ = some (.int .i64 (cdAt ls n k k).1) := by
                rw [blk_cell HT.out.codes, Nat.mul_comm]
                simpa using cellsOf_get0 _ _ _ (cdL_get ls n k k hk)
              have c1 : wi.cell? ⟨w.heap.size, k * 2 + 1, none⟩ = some (.int .i64 (cdAt ls n k k).2) := by
                rw [blk_cell HT.out.codes, Nat.mul_comm]
                simpa using cellsOf_get1 _ _ _ (cdL_get ls n k k hk)
              have f0 := blk_frozen HT.out.codes (k * 2)
              have f1 := blk_frozen HT.out.codes (k * 2 + 1)
              go_wp2_with fail
              have htc := Tb_codes HT.out hk hl (by have := HP.out; omega) (by have := HP.out; omega) (y : Int) (by rw [HCE.out])
              obtain ⟨W2, hW2⟩ : ∃ W2, W2 = (wi.setCell ⟨w.heap.size, k * 2, none⟩ (.int .i64 (y : Int))).setCell ⟨w.heap.size, k * 2 + 1, none⟩ (.int .i64 ((n : Int) + 1)) := ⟨_, rfl⟩
              simp only [← hW2] at htc
              rw [← hW2]
              clear b0 b1 c0 c1 f0 f1 hW2
              obtain ⟨t1, t2, t3, t4⟩ := htc
              have b0 : W2.cell? ⟨p, 0, none⟩ = some (.slice (some ⟨w.heap.size, 0, none⟩) ls.length ls.length) := (blk_cell t1 0).trans rfl
              have b1 : W2.cell? ⟨p, 1, none⟩ = some (.map (some gm)) := (blk_cell t1 1).trans rfl
              have hcd : cdAt ls n (k + 1) k = ((y : Int), (n : Int) + 1) := by
                unfold cdAt
                rw [if_pos (by omega), hl, HCE.out]
                rfl
              have c0 : W2.cell? ⟨w.heap.size, k * 2, none⟩ = some (.int .i64 (y : Int)) := by
                rw [blk_cell t2, Nat.mul_comm]
                have := cellsOf_get0 _ _ _ (cdL_get ls n (k + 1) k hk)
                rw [hcd] at this
                simpa using this
              have c1 : W2.cell? ⟨w.heap.size, k * 2 + 1, none⟩ = some (.int .i64 ((n : Int) + 1)) := by
                rw [blk_cell t2, Nat.mul_comm]
                have := cellsOf_get1 _ _ _ (cdL_get ls n (k + 1) k hk)
                rw [hcd] at this
                simpa using this
              obtain ⟨W3, hup, hm3, hf3⟩ := update_new (W := W2.drew) (g := gm) t3 ((y : Int), (n : Int) + 1) (k : Int) ⟨WalkArith.wf_i64 (by omega), WalkArith.wf_i64 (by omega)⟩ (by have := ents_new ls n k hk hl; rw [HCE.out] at this; exact this)
              unfold keyV at hup
              have hpg : ¬ p = gm := by have := HP.out; omega
              have hcg : ¬ w.heap.size = gm := by have := HP.out; omega
              have d0 := hf3.cell b0 hpg
              have d1 := hf3.cell b1 hpg
              have d2 := hf3.cell c0 hcg
              have d3 := hf3.cell c1 hcg
              have HM3 := Aside0.mk hm3
              have HF3 := Aside0.mk hf3
              have T1 := Aside0.mk t1
              have T2 := Aside0.mk t2
              have T4 := Aside0.mk t4
              clear t1 t2 t3 t4 hm3 hf3 hcd
              go_region_held3 (fun w' => w'.cell? ⟨p, 0, none⟩ = some (.slice (some ⟨w.heap.size, 0, none⟩) ls.length ls.length) ∧ w'.cell? ⟨p, 1, none⟩ = some (.map (some gm)) ∧ w'.cell? ⟨w.heap.size, k * 2, none⟩ = some (.int .i64 (y : Int)) ∧ w'.cell? ⟨w.heap.size, k * 2 + 1, none⟩ = some (.int .i64 ((n : Int) + 1))) (go_keep) (fail)
              clear b0 b1 c0 c1 d0 d1 d2 d3 hup
              go_wp2_with fail
              have HT3 := Aside0.mk (show Tb W3 p w.heap.size gm ls n (k + 1) from ⟨(HF3.out.blk p (blk_lt T1.out) hpg).trans T1.out, (HF3.out.blk _ (blk_lt T2.out) hcg).trans T2.out, by rw [lvl_succ_hit ls (n + 1) k hl, ← List.append_assoc, HCE.out]; exact HM3.out⟩)
              have HB3 := Aside0.mk (show Below w.heap.size w W3 from Fr.below (Fr.below HB.out T4.out (fun i hi => Nat.le_of_eq hi.symm) HB.out.size) HF3.out.undrew (fun i hi => by have := HP.out; have hi : i = gm := hi; omega) (Nat.le_trans HB.out.size T4.out.size))
              have hct := cnt_take_succ ls (n + 1) k hk
              rw [if_pos hl] at hct
              obtain ⟨g', rfl⟩ : ∃ g', gk = g' + 1 := ⟨gk - 1, by have := HK2.out; omega⟩
              go_roundg g'
              case measure => omega
              case rel => exact ⟨k + 1, by go_num, by rw [hct]; congr 1; have := HY.out; omega, ⟨by have := HK2.out; omega⟩, HT3, HB3⟩
            · have hv : ((rd ls (k : Int) == (n : Int) + 1)) = false := by
                rw [rd_getD]
                exact beq_eq_false_iff_ne.2 (fun e => hl (by rw [e]; rfl))
              go_wp2_with fail
              have hct := cnt_take_succ ls (n + 1) k hk
              rw [if_neg hl] at hct
              have HT3 := Aside0.mk (show Tb wi p w.heap.size gm ls n (k + 1) from ⟨HT.out.box, by rw [cdL_miss ls n k hl]; exact HT.out.codes, by rw [lvl_succ_miss ls (n + 1) k hl]; exact HT.out.signs⟩)
              obtain ⟨g', rfl⟩ : ∃ g', gk = g' + 1 := ⟨gk - 1, by have := HK2.out; omega⟩
              go_roundg g'
              case measure => omega
              case rel => exact ⟨k + 1, by go_num, by rw [hct]; rfl, ⟨by have := HK2.out; omega⟩, HT3, HB⟩
          · obtain rfl : k = ls.length := by have := HK2.out; omega
            have hne := nxt_end ls n
            rw [hne]
            have HT3 := Aside0.mk (show Tb wi p w.heap.size gm ls (n + 1) 0 from ⟨HT.out.box, by rw [← cdL_next ls n]; exact HT.out.codes, by
              have := HT.out.signs
              show IsM _ _ (ents ls (n + 1) ++ lvl ls (n + 1 + 1) 0)
              rw [show lvl ls (n + 1 + 1) 0 = [] from rfl, List.append_nil]
              exact this⟩)
            clear hne
            go_wp2_with fail
            obtain ⟨g', rfl⟩ : ∃ g', go = g' + 1 := ⟨go - 1, by have := HK.out; omega⟩
            go_roundg g'
            case measure => omega
            case rel => exact ⟨n + 1, by go_num, rfl, ⟨by have := HK.out; omega⟩, HT3, HB⟩
      · obtain rfl : n = 15 := by have := HK.out; omega
        clear HK
        go_wp2_with fail
        go_ret2
        refine ⟨p, rfl, ⟨w.heap.size, gm, by have := HP.out; omega, blk_lt HT.out.box, Nat.le_refl _, blk_lt HT.out.codes, by have := HP.out; omega, HT.out.signs.lt, HT.out.box, HT.out.codes, ?_⟩, HB.out⟩
        have := HT.out.signs
        rw [show lvl ls (15 + 1) 0 = [] from rfl, List.append_nil] at this
        exact this
/-- What keeps a list of lengths from being codes. -/
theorem okS_bad {ls : List Int} (h : okS ls = false) : inR ls = false ∨ 320 < ls.length ∨ (inR ls = true ∧ nz ls ≠ 0 ∧ (nz ls = 1 → krf ls 15 ≠ 16384) ∧ krf ls 15 ≠ 32768) := by
  by_cases h1 : inR ls = true
  · by_cases h2 : ls.length ≤ 320
    · refine .inr (.inr ⟨h1, ?_⟩)
      refine ⟨fun e => ?_, fun e1 e2 => ?_, fun e => ?_⟩
      · unfold okS at h; rw [h1, decide_eq_true h2, decide_eq_true e] at h; simp at h
      · unfold okS at h; rw [h1, decide_eq_true h2, decide_eq_true e1, decide_eq_true e2] at h; simp at h
      · unfold okS at h; rw [h1, decide_eq_true h2, decide_eq_true e] at h; simp at h
    · exact .inr (.inl (by omega))
  · exact .inl (by simpa using h1)
set_option maxHeartbeats 32000000 in
set_option maxRecDepth 100000 in
theorem New_bad (A : Option Addr) (c : Nat) (ls : List Int) (w : World) (hC : Kd.C (Kd.int .i64) w A ls.length ls) (hc : ls.length ≤ c) (hl : ls.length ≤ 35184372088832) (hok : okS ls = false) :
    Calls Try.prog 17 #[.slice A ls.length c] w fun e w' => e = .returned (.tuple #[.pointer none, .int .i64 2]) ∧ Drawn0 w w' := by
  have hroom := room_calls A c ls w hC hc hl
  have HC := Aside0.mk hC
  clear hC hc
  rcases okS_bad hok with h | h | ⟨h1, h2, h3, h4⟩
  · rw [h] at hroom
    simp only [Bool.false_eq_true, if_false] at hroom
    have HROOM := Aside0.mk hroom
    clear hroom h hok
    go_enter Try.func17, Try.ntmps17
    go_wp2_with fail
    refine HROOM.out.mono ?_
    rintro e w1 ⟨rfl, m1, rfl⟩
    go_wp2_with fail
    go_ret2
    exact ⟨rfl, _, rfl⟩
  · by_cases h1 : inR ls = true
    · rw [h1] at hroom
      simp only [if_true] at hroom
      have HROOM := Aside0.mk hroom
      generalize krf ls 15 = T at *
      generalize nz ls = Z at *
      have hT : (320 : Int) < (ls.length : Int) := by omega
      have hd : decide ((320 : Int) < (ls.length : Int)) = true := decide_eq_true hT
      have hd2 : decide (320 < ls.length) = true := decide_eq_true h
      clear hroom h hok h1
      have hz : Z = 0 ∨ Z ≠ 0 := by omega
      rcases hz with rfl | hz
      · go_enter Try.func17, Try.ntmps17
        go_wp2_with fail
        refine HROOM.out.mono ?_
        rintro e w1 ⟨rfl, m1, rfl⟩
        go_wp2_with fail
        all_goals
          go_ret2
          exact ⟨rfl, _, rfl⟩
      · have z0 : ((Z : Int) == 0) = false := by simp; omega
        clear hz
        go_enter Try.func17, Try.ntmps17
        go_wp2_with fail
        refine HROOM.out.mono ?_
        rintro e w1 ⟨rfl, m1, rfl⟩
        go_wp2_with fail
        all_goals
          go_ret2
          exact ⟨rfl, _, rfl⟩
    · have h1' : inR ls = false := by simpa using h1
      rw [h1'] at hroom
      simp only [Bool.false_eq_true, if_false] at hroom
      have HROOM := Aside0.mk hroom
      clear hroom h hok h1
      go_enter Try.func17, Try.ntmps17
      go_wp2_with fail
      refine HROOM.out.mono ?_
      rintro e w1 ⟨rfl, m1, rfl⟩
      go_wp2_with fail
      go_ret2
      exact ⟨rfl, _, rfl⟩
  · by_cases h5 : 320 < ls.length
    · rw [h1] at hroom
      simp only [if_true] at hroom
      have HROOM := Aside0.mk hroom
      generalize krf ls 15 = T at *
      generalize nz ls = Z at *
      have hT : (320 : Int) < (ls.length : Int) := by omega
      have hd : decide ((320 : Int) < (ls.length : Int)) = true := decide_eq_true hT
      have hd2 : decide (320 < ls.length) = true := decide_eq_true h5
      have z0 : ((Z : Int) == 0) = false := by simp; omega
      clear hroom hok h1 h2 h3 h4 h5
      go_enter Try.func17, Try.ntmps17
      go_wp2_with fail
      refine HROOM.out.mono ?_
      rintro e w1 ⟨rfl, m1, rfl⟩
      go_wp2_with fail
      all_goals
        go_ret2
        exact ⟨rfl, _, rfl⟩
    · rw [h1] at hroom
      simp only [if_true] at hroom
      have HROOM := Aside0.mk hroom
      generalize krf ls 15 = T at *
      generalize nz ls = Z at *
      have hT : ¬ (320 : Int) < (ls.length : Int) := by omega
      have hd : decide ((320 : Int) < (ls.length : Int)) = false := decide_eq_false hT
      have hd2 : decide (320 < ls.length) = false := decide_eq_false h5
      have z0 : ((Z : Int) == 0) = false := by simp; omega
      have t2 : ((T : Int) != 32768) = true := by simp; omega
      clear hroom hok h1 h2 h5
      by_cases hz : Z = 1
      · subst hz
        have t1 : ((T : Int) == 16384) = false := by simp; omega
        clear h3 h4
        go_enter Try.func17, Try.ntmps17
        go_wp2_with fail
        refine HROOM.out.mono ?_
        rintro e w1 ⟨rfl, m1, rfl⟩
        go_wp2_with fail
        all_goals
          go_ret2
          exact ⟨rfl, _, rfl⟩
      · have z1 : ((Z : Int) == 1) = false := by simp; omega
        clear h3 h4 hz
        go_enter Try.func17, Try.ntmps17
        go_wp2_with fail
        refine HROOM.out.mono ?_
        rintro e w1 ⟨rfl, m1, rfl⟩
        go_wp2_with fail
        all_goals
          go_ret2
          exact ⟨rfl, _, rfl⟩
end Go.Proofs.Ytihgekpijplfiaa.Hn
