/- HuffOne is true for every number and byte. Conditions: an int of 64 digits, a byte. -/
import Derived.Test.YtihgekpijplfiaaHf
import Derived.Test.YtihgekpijplfiaaHg
import Derived.Test.YtihgekpijplfiaaBa
namespace Go.Proofs.Ytihgekpijplfiaa.Hn
set_option linter.unusedVariables false
open Go.RowKit Go.Maps Go.Proofs.YtihgekpijplfiaaW.PrintWords Go.Proofs.YtihgekpijplfiaaW.PrintLast Go.Proofs.YtihgekpijplfiaaW.PrintMore Go.Proofs.Ytihgekpijplfiaa.Hp Go.Proofs.Ytihgekpijplfiaa.Rm Go.Proofs.Ytihgekpijplfiaa.Mp Go.Proofs.Ytihgekpijplfiaa.Fr Go.Proofs.Ytihgekpijplfiaa.Rf Go.Proofs.Ytihgekpijplfiaa.Kit Go.Proofs.Ytihgekpijplfiaa.Gs Go.Proofs.Ytihgekpijplfiaa.Rd Go.Proofs.Ytihgekpijplfiaa.Wr Go.Proofs.Ytihgekpijplfiaa.Pack
/-- Whole numbers that are a block's all. -/
def IntsAt (W : World) (g : Nat) (xs : List Int) : Prop := W.heap[g]? = some (.cells (xs.map (Value.int .i64)).toArray 3 (0, 0))
theorem IntsAt.C {W : World} {g : Nat} {xs : List Int} (h : IntsAt W g xs) (hl : xs.length ≤ 9223372036854775807) : Kd.C (Kd.int .i64) W (some ⟨g, 0, none⟩) xs.length xs := by
  unfold IntsAt at h
  refine ⟨rfl, hl, fun _ => ⟨_, rfl, fun j p hj => ⟨[.int .i64 p], rfl, rfl, fun i u hu => ?_⟩⟩⟩
  have hi : i = 0 := by
    have := (List.getElem?_eq_some_iff.1 hu).1
    simpa using this
  subst hi
  rw [add_plain]
  simp only [World.cell?, h]
  rw [show j * (Kd.int .i64).sz + 0 = j from by show j * 1 + 0 = j; omega]
  have hu' : Value.int .i64 p = u := by simpa using hu
  rw [List.getElem?_toArray, List.getElem?_map, hj, ← hu']
  rfl
theorem IntsAt.set {W : World} {g : Nat} {xs : List Int} (h : IntsAt W g xs) (k : Nat) (x : Int) : IntsAt (W.setCell ⟨g, k, none⟩ (.int .i64 x)) g (xs.set k x) := by
  refine (blk_set h k _).trans ?_
  rw [List.setIfInBounds_toArray, List.map_set]
theorem IntsAt.fr {W W1 : World} {g : Nat} {xs : List Int} {S : Nat → Prop} (h : IntsAt W g xs) (k : Fr W W1 S) (hs : ¬ S g) : IntsAt W1 g xs := (k.blk g (blk_lt h) hs).trans h
def Z20 : List Int := List.replicate 20 0
def One (k : Nat) : List Int := Z20.set k 1
theorem okZ20 : okS Z20 = true := by kernel_rfl
theorem okOne (k : Nat) (hk : k < 20) : okS (One k) = true := by
  have h : ∀ k < 20, okS (One k) = true := by decide +kernel
  exact h k hk
theorem One_get (k : Nat) (hk : k < 20) (i : Nat) (hi : i < 20) : (One k).getD i 0 = if i = k then 1 else 0 := by
  have h : ∀ k < 20, ∀ i < 20, (One k).getD i 0 = if i = k then 1 else 0 := by decide +kernel
  exact h k hk i hi
theorem One_code (k : Nat) (hk : k < 20) : codeOf (One k) k = 0 := by
  have h : ∀ k < 20, codeOf (One k) k = 0 := by decide +kernel
  exact h k hk
theorem One_length (k : Nat) : (One k).length = 20 := by simp [One, Z20]
theorem look_Z20 (c : Int) (n : Nat) (hn : 0 < n) : lookS Z20 c n = none := by
  apply lookS_none
  intro s hs h
  have : Z20.getD s 0 = 0 := by
    have h : ∀ s < 20, Z20.getD s 0 = 0 := by decide +kernel
    exact h s (by simpa [Z20] using hs)
  omega
theorem look_One (k : Nat) (hk : k < 20) (c : Int) (n : Nat) (hn : 0 < n) (h : ¬ (n = 1 ∧ c = 0)) : lookS (One k) c n = none := by
  apply lookS_none
  intro s hs h1 h2
  rw [One_length] at hs
  rw [One_get k hk s hs] at h1
  by_cases e : s = k
  · subst e
    rw [if_pos rfl] at h1
    rw [One_code s hk] at h2
    exact h ⟨by omega, by omega⟩
  · rw [if_neg e] at h1; omega
theorem look_One1 (k : Nat) (hk : k < 20) : lookS (One k) 0 1 = some k :=
  lookS_of (by decide) (by rw [One_length]; exact hk) (by rw [One_get k hk k hk, if_pos rfl]; rfl) (by rw [One_code k hk]; rfl)
theorem decS_none (ls bs : List Int) : ∀ (d : Nat) (x : Int) (pos : Nat) (bad : Bool), d ≤ 15 → (∀ c n, 15 - d < n → lookS ls c n = none) → (decS ls bs d x pos bad).1 = (0, false)
  | 0, _, _, _, _, _ => rfl
  | d + 1, x, pos, bad, hd, h => by
    rw [decS]
    by_cases hb : (getS bs pos bad 1).2.2 = true
    · rw [if_pos hb]
    · rw [if_neg hb, h _ (15 - d) (by omega)]
      exact decS_none ls bs d _ _ _ (by omega) (fun c n hn => h c n (by omega))
theorem getS_first (b : Int) : getS [b] 0 false 1 = (b % 2, 1, false) := by
  rw [getS_ok (by simp)]
  have e : valAt [b] 0 (1 : Int).toNat = b % 2 := by
    show valAt [b] 0 1 = b % 2
    simp [valAt, bitAt]
  rw [e]
  rfl
theorem dec_even (k : Nat) (hk : k < 20) (b : Int) (hb : b % 2 = 0) : decS (One k) [b] 15 0 0 false = (((k : Int), true), 1, false) := by
  rw [decS, getS_first]
  simp only
  rw [if_neg Bool.false_ne_true, show (2 * 0 + b % 2 : Int) = 0 by omega, show 15 - 14 = 1 from rfl, look_One1 k hk]
theorem dec_odd (k : Nat) (hk : k < 20) (b : Int) (hb : b % 2 = 1) : (decS (One k) [b] 15 0 0 false).1 = (0, false) := by
  rw [decS, getS_first]
  simp only
  rw [if_neg Bool.false_ne_true, show (2 * 0 + b % 2 : Int) = 1 by omega, show 15 - 14 = 1 from rfl, look_One k hk 1 1 (by decide) (by decide)]
  exact decS_none _ _ 14 _ _ _ (by decide) (fun c n hn => look_One k hk c n (by omega) (by omega))
theorem dec_none (b : Int) : (decS Z20 [b] 15 0 0 false).1 = (0, false) := decS_none _ _ 15 _ _ _ (Nat.le_refl _) (fun c n hn => look_Z20 c n (by omega))
set_option maxHeartbeats 16000000 in
set_option maxRecDepth 100000 in
theorem HuffOne_walk (a b : Int) (a0 : -9223372036854775808 ≤ a) (a1 : a ≤ 9223372036854775807) (b0 : 0 ≤ b) (b1 : b ≤ 255) (w : World) :
    Calls Try.prog 10 #[.int .i64 a, .int .u8 b] w fun e w' => e = .returned (.bool true) ∧ Below w.heap.size w w' := by
  obtain ⟨i0, hi0, hz, hsz, hby⟩ := info_parts info3
  have hmk := fun (W : World) => run_make (P := Try.prog) W 26 3 i0 _ Try.underlying26 hi0 hz .i64 .i64 20 20 (by omega) (by omega) (by rw [hby]; omega) (by omega)
  obtain ⟨Z0, hZ0⟩ : ∃ Z0, madeCells (Value.int .i64 0).cells ((20 : Int).toNat * i0.size) = Z0 := ⟨_, rfl⟩
  have hmk2 := fun (W : World) => by have h := hmk W; rw [hZ0] at h; exact h
  have HZ0 := Aside0.mk (show Z0 = (Z20.map (Value.int .i64)).toArray by
    rw [← hZ0, hsz, Nat.mul_one]
    apply Array.toList_inj.1
    show (madeCells #[Value.int .i64 0] 20).toList = _
    rw [toList_madeCells_one]
    rfl)
  rw [show (20 : Int).toNat = 20 from rfl] at hmk2
  clear hmk hZ0 hi0 hz hsz hby
  go_enter Try.func10, Try.ntmps10
  go_wp2_with fail
  have hw := within_nat a 20 a0 a1 (by omega) (by omega) w
  rw [show ((20 : Nat) : Int) = 20 from rfl] at hw
  refine hw.mono ?_
  clear hw
  rintro e w0 ⟨k, hk1, hk2, rfl, m0, rfl⟩
  clear hk1
  have hk3 : (k : Int) < 20 := by omega
  have hk0 : (0 : Int) ≤ (k : Int) := by omega
  go_wp2_with fail
  obtain ⟨w1, hw1⟩ : ∃ w1, w1 = (w.drewN m0).alloc (.cells Z0 3) := ⟨_, rfl⟩
  obtain ⟨gl, hgl⟩ : ∃ gl, gl = w.heap.size := ⟨_, rfl⟩
  have HI1 := Aside0.mk (show IntsAt w1 gl Z20 by rw [hw1, hgl, HZ0.out]; exact heap_alloc_new (w.drewN m0) _)
  have HB1 := Aside0.mk (show Below w.heap.size w w1 by rw [hw1]; exact below_alloc (pw_below_drewN (Below.refl _ _) m0) _)
  rw [← hw1, ← hgl]
  have HGL := Aside0.mk hgl
  clear hw1 hgl hmk2 HZ0
  have HN1 := New_ok (some ⟨gl, 0, none⟩) 20 Z20 w1 (HI1.out.C (by decide)) (by decide) okZ20
  rw [show Z20.length = 20 from rfl] at HN1
  refine HN1.mono ?_
  clear HN1
  rintro e w2 ⟨p1, rfl, hT, hB⟩
  have HT1 := Aside0.mk hT
  have HI2 := Aside0.mk (HI1.out.fr (Fr.of_below hB No) (fun e => e))
  have HB2 := Aside0.mk (below_step HB1.out hB)
  have HS1 := Aside0.mk (show gl < w1.heap.size from blk_lt HI1.out)
  have HS2 := Aside0.mk hB.size
  clear hT hB HI1 HB1
  have hx : w2.cell? ⟨gl, k, none⟩ = some (.int .i64 0) := by
    have := C_at0 (HI2.out.C (by decide)) k hk2
    have e : rd Z20 (k : Int) = 0 := by
      rw [rd_getD]
      have h : ∀ s < 20, Z20.getD s 0 = 0 := by decide +kernel
      exact h k hk2
    rw [e] at this
    exact this
  have hf := blk_frozen HI2.out k
  go_wp2_with fail
  obtain ⟨w3, hw3⟩ : ∃ w3, w3 = w2.setCell ⟨gl, k, none⟩ (.int .i64 1) := ⟨_, rfl⟩
  have HI3 := Aside0.mk (show IntsAt w3 gl (One k) by rw [hw3]; exact HI2.out.set k 1)
  have HF3 := Aside0.mk (show Fr w2 w3 (fun i => i = gl) by rw [hw3]; exact (Fr.refl _ _).setg _ _)
  have HB3 := Aside0.mk (Fr.below HB2.out HF3.out (fun i hi => Nat.le_of_eq ((show i = gl from hi).trans HGL.out).symm) HB2.out.size)
  have HT13 := Aside0.mk (HT1.out.fr HF3.out (fun i h1 h2 h3 => by have := HS1.out; have h3 : i = gl := h3; omega))
  rw [← hw3]
  clear hw3 hx hf HI2 HB2 HT1
  have HN2 := New_ok (some ⟨gl, 0, none⟩) 20 (One k) w3 (HI3.out.C (by rw [One_length]; decide)) (by rw [One_length]; decide) (okOne k hk2)
  rw [One_length] at HN2
  refine HN2.mono ?_
  clear HN2
  rintro e w4 ⟨p2, rfl, hT, hB⟩
  have HT2 := Aside0.mk hT
  have HT14 := Aside0.mk (HT13.out.fr (Fr.of_below hB No) (fun _ _ _ e => e))
  have HB4 := Aside0.mk (below_step HB3.out hB)
  have HS3 := Aside0.mk (show w2.heap.size ≤ w3.heap.size from HF3.out.size)
  have HS4 := Aside0.mk hB.size
  clear hT hB HT13 HB3 HI3 HF3
  go_wp2_with fail
  have hcb := C_row (Kd.int .u8) (fun x => [.int .u8 x]) (fun _ _ => rfl) w4 5 (0, 0) [b] (by show 1 ≤ _; decide)
  have HN5 := NewR_fr (some ⟨w4.heap.size, 0, none⟩) 1 [b] _ hcb (fun e => by cases e) (by show 1 ≤ _; decide)
  refine HN5.mono ?_
  clear HN5 hcb
  rintro e w5 ⟨g1, rfl, hI, hB, hsz⟩
  rw [World.size_alloc] at hI
  have HR1 := Aside0.mk hI
  have hB := below_step (below_alloc (Below.refl w4.heap.size w4) _) hB
  have HT15 := Aside0.mk (HT14.out.fr (Fr.of_below hB No) (fun _ _ _ e => e))
  have HT25 := Aside0.mk (HT2.out.fr (Fr.of_below hB No) (fun _ _ _ e => e))
  have HB5 := Aside0.mk (below_step HB4.out hB)
  have HS5 := Aside0.mk (show g1 < w5.heap.size from by omega)
  clear hI hB hsz HT14 HT2 HB4
  go_wp2_with fail
  have hcb := C_row (Kd.int .u8) (fun x => [.int .u8 x]) (fun _ _ => rfl) w5 5 (0, 0) [b] (by show 1 ≤ _; decide)
  have HN5 := NewR_fr (some ⟨w5.heap.size, 0, none⟩) 1 [b] _ hcb (fun e => by cases e) (by show 1 ≤ _; decide)
  refine HN5.mono ?_
  clear HN5 hcb
  rintro e w6 ⟨g2, rfl, hI, hB, hsz⟩
  rw [World.size_alloc] at hI
  have HR2 := Aside0.mk hI
  have hB := below_step (below_alloc (Below.refl w5.heap.size w5) _) hB
  have HT16 := Aside0.mk (HT15.out.fr (Fr.of_below hB No) (fun _ _ _ e => e))
  have HT26 := Aside0.mk (HT25.out.fr (Fr.of_below hB No) (fun _ _ _ e => e))
  have HR16 := Aside0.mk (HR1.out.below hB)
  have HB6 := Aside0.mk (below_step HB5.out hB)
  have HS6 := Aside0.mk (And.intro hB.size (show g2 < w6.heap.size from by omega))
  have HG := Aside0.mk (show w4.heap.size + 1 ≤ g1 ∧ w5.heap.size + 1 ≤ g2 from ⟨HR1.out.ge.1, hI.ge.1⟩)
  clear hI hB hsz HT15 HT25 HB5 HR1
  go_wp2_with fail
  have HGN := Aside0.mk (Get_T _ _ p1 _ g2 Z20 [b] 0 false (Nat.zero_le _) (by show 1 ≤ _; decide) okZ20 w6 HT16.out HR2.out (by have := HS2.out; have := HS3.out; have := HS4.out; have := HG.out; have := HS5.out; omega) (by have := HS2.out; have := HS3.out; have := HS4.out; have := HG.out; have := HS5.out; have := HS6.out; omega))
  rw [dec_none] at HGN
  refine HGN.out.mono ?_
  clear HGN
  rintro e w7 ⟨rfl, _, hF⟩
  have HT17 := Aside0.mk (HT16.out.fr hF (fun i h1 h2 h3 => by have h3 : i = g2 := h3; have := HS2.out; have := HS3.out; have := HS4.out; have := HG.out; have := HS5.out; omega))
  have HT27 := Aside0.mk (HT26.out.fr hF (fun i h1 h2 h3 => by have h3 : i = g2 := h3; have := HS4.out; have := HG.out; have := HS5.out; omega))
  have HR17 := Aside0.mk (HR16.out.fr hF (fun i hi => by have := HG.out; have := HS5.out; omega))
  have HB7 := Aside0.mk (Fr.below HB6.out hF (fun i hi => by have hi : i = g2 := hi; have := HG.out; have := HS5.out; have := HS4.out; have := HB6.out.size; have := HS1.out; have := HS2.out; have := HS3.out; have := HGL.out; omega) HB6.out.size)
  have HS7 := Aside0.mk hF.size
  clear hF HT16 HT26 HR16 HB6 HR2
  go_wp2_with fail
  have HGN := Aside0.mk (Get_T _ _ p2 _ g1 (One k) [b] 0 false (Nat.zero_le _) (by show 1 ≤ _; decide) (okOne k hk2) w7 HT27.out HR17.out (by have := HS4.out; have := HG.out; have := HS5.out; omega) (by have := HS4.out; have := HG.out; have := HS5.out; have := HS6.out; have := HS7.out; omega))
  rcases (show b % 2 = 0 ∨ b % 2 = 1 by omega) with hb | hb
  · rw [dec_even k hk2 b hb] at HGN
    have hbt : b.tmod 2 = 0 := by rw [Int.tmod_eq_emod_of_nonneg b0]; exact hb
    refine HGN.out.mono ?_
    clear HGN
    rintro e w8 ⟨rfl, hI, hF⟩
    have HT18 := Aside0.mk (HT17.out.fr hF (fun i h1 h2 h3 => by have h3 : i = g1 := h3; have := HS2.out; have := HS3.out; have := HS4.out; have := HG.out; have := HS5.out; omega))
    have HT28 := Aside0.mk (HT27.out.fr hF (fun i h1 h2 h3 => by have h3 : i = g1 := h3; have := HS4.out; have := HG.out; have := HS5.out; omega))
    have HR18 := Aside0.mk hI
    have HB8 := Aside0.mk (Fr.below HB7.out hF (fun i hi => by have hi : i = g1 := hi; have := HG.out; have := HS5.out; have := HS4.out; have := HB7.out.size; have := HS1.out; have := HS2.out; have := HS3.out; have := HGL.out; omega) HB7.out.size)
    have HS8 := Aside0.mk hF.size
    clear hF hI
    have HLF := Aside0.mk (fun (m : Nat) (W : World) (hI : IsR (w4.heap.size + 1) W g1 [b] 1 false) => Left_fr (w4.heap.size + 1) g1 [b] 1 false (by show 1 ≤ 8; decide) (by show 1 ≤ _; decide) W hI)
    rw [show (8 * (([b] : List Int).length : Int) - ((1 : Nat) : Int)) = 7 from rfl] at HLF
    go_wp2_with fail
    refine (NewW_calls _).mono ?_
    rintro e w9 ⟨g3, rfl, hw, hB⟩
    have HW9 := Aside0.mk hw
    have HT19 := Aside0.mk (HT18.out.fr (Fr.of_below hB No) (fun _ _ _ e => e))
    have HT29 := Aside0.mk (HT28.out.fr (Fr.of_below hB No) (fun _ _ _ e => e))
    have HR19 := Aside0.mk (HR18.out.below hB)
    have HB9 := Aside0.mk (below_step HB8.out hB)
    have HSS := Aside0.mk (show w2.heap.size ≤ w8.heap.size ∧ w4.heap.size ≤ w8.heap.size ∧ g1 < w8.heap.size from by have := HS2.out; have := HS3.out; have := HS4.out; have := HG.out; have := HS5.out; have := HS6.out; have := HS7.out; have := HS8.out; omega)
    clear hw hB
    go_wp2_with fail
    have HP := Aside0.mk (Put_yes _ _ p2 _ g3 (One k) [] k (by rw [One_length]; exact hk2) (by rw [One_get k hk2 k hk2, if_pos rfl]; decide) (okOne k hk2) (by decide) w9 HT29.out HW9.out)
    rw [One_code k hk2, show lenOf (One k) k = 1 from (by unfold lenOf; rw [One_get k hk2 k hk2, if_pos rfl]; rfl)] at HP
    refine HP.out.mono ?_
    clear HP
    rintro e w10 ⟨rfl, hw, hF, hown⟩
    have hgeW : ∀ j, WOwn w9 g3 j → w8.heap.size ≤ j := fun j hj => HW9.out.1.own_ge j hj
    have HW10 := Aside0.mk hw
    have HT110 := Aside0.mk (HT19.out.fr hF (fun i h1 h2 h3 => by have := hgeW i h3; have := HSS.out; omega))
    have HT210 := Aside0.mk (HT29.out.fr hF (fun i h1 h2 h3 => by have := hgeW i h3; have := HSS.out; omega))
    have HR110 := Aside0.mk (HR19.out.fr hF (fun i hi => by have := hgeW i hi; have := HSS.out; omega))
    have HB10 := Aside0.mk (Fr.below HB9.out hF (fun i hi => by have := hgeW i hi; have := HB8.out.size; omega) HB9.out.size)
    clear hw hF hown hgeW
    go_wp2_with fail
    have hno1 : hasB (One k) ((k : Int) + 1) = false := by
      unfold hasB
      apply decide_eq_false
      rintro ⟨h1, h2, h3⟩
      rw [One_length] at h2
      have e : ((k : Int) + 1).toNat = k + 1 := by omega
      rw [e, One_get k hk2 (k + 1) (by omega), if_neg (by omega)] at h3
      omega
    refine (Put_no _ _ p2 g3 (One k) ((k : Int) + 1) hno1 (okOne k hk2) w10 HT210.out).mono ?_
    rintro e w11 ⟨rfl, m11, rfl⟩
    go_wp2_with fail
    have hno2 : hasB Z20 (k : Int) = false := by
      unfold hasB
      apply decide_eq_false
      rintro ⟨h1, h2, h3⟩
      rw [Int.toNat_natCast] at h3
      have h : ∀ s < 20, Z20.getD s 0 = 0 := by decide +kernel
      rw [h k hk2] at h3
      omega
    refine (Put_no _ _ p1 g3 Z20 (k : Int) hno2 okZ20 (w10.drewN m11) (by exact HT110.out.fr ((Fr.refl _ No).drewN m11) (fun _ _ _ e => e))).mono ?_
    rintro e w12 ⟨rfl, m12, rfl⟩
    obtain ⟨w13, hw13⟩ : ∃ w13, w13 = (w10.drewN m11).drewN m12 := ⟨_, rfl⟩
    have HW13 := Aside0.mk (show IsWr w8.heap.size w13 g3 _ by rw [hw13]; exact HW10.out)
    have HR13 := Aside0.mk (show IsR (w4.heap.size + 1) w13 g1 [b] _ _ by rw [hw13]; exact HR110.out)
    have HB13 := Aside0.mk (show Below w.heap.size w w13 by rw [hw13]; exact pw_below_drewN (pw_below_drewN HB10.out _) _)
    rw [← hw13]
    clear hw13 HW10 HR110 HB10 HT110 HT210
    go_wp2_with fail
    refine (HLF.out 0 _ (HR13.out)).mono ?_
    rintro e w14 ⟨rfl, m14, rfl⟩
    replace HW13 := Aside0.mk (show IsWr w8.heap.size (w13.drewN m14) g3 _ from HW13.out)
    replace HB13 := Aside0.mk (pw_below_drewN HB13.out m14)
    obtain ⟨w14, hw14⟩ : ∃ w14, w14 = w13.drewN m14 := ⟨_, rfl⟩
    rw [← hw14] at HW13 HB13 ⊢
    clear hw14
    go_wp2_with fail
    have HBY := Aside0.mk (Bytes_calls _ g3 _ w14 HW13.out)
    rw [show packB ([] ++ highD ((0 : Nat) : Int) 1) = [0] from by kernel_rfl] at HBY
    rw [show ([0] : List Int).length = 1 from rfl] at HBY
    refine HBY.out.mono ?_
    clear HBY
    rintro e w15 ⟨A, c, rfl, hr, hb15⟩
    have HB15 := Aside0.mk (below_step HB13.out hb15)
    have h2 := Kd.R_reads' hr
    have HSB := Aside0.mk (fun (o : Obj) => SameB_calls A (some ⟨w15.heap.size, 0, none⟩) c 1 [0] (w15.alloc (.cells #[.int .u8 0] 5)) (Kd.C_alloc h2.2.2 _) h2.2.1 (C_row (Kd.int .u8) (fun x => [.int .u8 x]) (fun _ _ => rfl) w15 5 (0, 0) [0] (by decide)) (by decide))
    clear hr hb15 h2
    go_wp2_with fail
    refine (HSB.out (.map #[] 0)).mono ?_
    rintro e w16 ⟨rfl, m16, rfl⟩
    go_wp2_with fail
    refine (wakes3 _).mono ?_
    rintro e w17 ⟨rfl, hw⟩
    go_wp2_with fail
    go_ret
    exact ⟨rfl, below_step (pw_below_drewN (below_alloc HB15.out _) m16) hw⟩
  · have hbt : b.tmod 2 = 1 := by rw [Int.tmod_eq_emod_of_nonneg b0]; exact hb
    rw [dec_odd k hk2 b hb] at HGN
    refine HGN.out.mono ?_
    clear HGN
    rintro e w8 ⟨rfl, hI, hF⟩
    have HT18 := Aside0.mk (HT17.out.fr hF (fun i h1 h2 h3 => by have h3 : i = g1 := h3; have := HS2.out; have := HS3.out; have := HS4.out; have := HG.out; have := HS5.out; omega))
    have HT28 := Aside0.mk (HT27.out.fr hF (fun i h1 h2 h3 => by have h3 : i = g1 := h3; have := HS4.out; have := HG.out; have := HS5.out; omega))
    have HR18 := Aside0.mk hI
    have HB8 := Aside0.mk (Fr.below HB7.out hF (fun i hi => by have hi : i = g1 := hi; have := HG.out; have := HS5.out; have := HS4.out; have := HB7.out.size; have := HS1.out; have := HS2.out; have := HS3.out; have := HGL.out; omega) HB7.out.size)
    have HS8 := Aside0.mk hF.size
    clear hF hI
    go_wp2_with fail
    refine (NewW_calls _).mono ?_
    rintro e w9 ⟨g3, rfl, hw, hB⟩
    have HW9 := Aside0.mk hw
    have HT19 := Aside0.mk (HT18.out.fr (Fr.of_below hB No) (fun _ _ _ e => e))
    have HT29 := Aside0.mk (HT28.out.fr (Fr.of_below hB No) (fun _ _ _ e => e))
    have HR19 := Aside0.mk (HR18.out.below hB)
    have HB9 := Aside0.mk (below_step HB8.out hB)
    have HSS := Aside0.mk (show w2.heap.size ≤ w8.heap.size ∧ w4.heap.size ≤ w8.heap.size ∧ g1 < w8.heap.size from by have := HS2.out; have := HS3.out; have := HS4.out; have := HG.out; have := HS5.out; have := HS6.out; have := HS7.out; have := HS8.out; omega)
    clear hw hB
    go_wp2_with fail
    have HP := Aside0.mk (Put_yes _ _ p2 _ g3 (One k) [] k (by rw [One_length]; exact hk2) (by rw [One_get k hk2 k hk2, if_pos rfl]; decide) (okOne k hk2) (by decide) w9 HT29.out HW9.out)
    rw [One_code k hk2, show lenOf (One k) k = 1 from (by unfold lenOf; rw [One_get k hk2 k hk2, if_pos rfl]; rfl)] at HP
    refine HP.out.mono ?_
    clear HP
    rintro e w10 ⟨rfl, hw, hF, hown⟩
    have hgeW : ∀ j, WOwn w9 g3 j → w8.heap.size ≤ j := fun j hj => HW9.out.1.own_ge j hj
    have HW10 := Aside0.mk hw
    have HT110 := Aside0.mk (HT19.out.fr hF (fun i h1 h2 h3 => by have := hgeW i h3; have := HSS.out; omega))
    have HT210 := Aside0.mk (HT29.out.fr hF (fun i h1 h2 h3 => by have := hgeW i h3; have := HSS.out; omega))
    have HR110 := Aside0.mk (HR19.out.fr hF (fun i hi => by have := hgeW i hi; have := HSS.out; omega))
    have HB10 := Aside0.mk (Fr.below HB9.out hF (fun i hi => by have := hgeW i hi; have := HB8.out.size; omega) HB9.out.size)
    clear hw hF hown hgeW
    go_wp2_with fail
    have hno1 : hasB (One k) ((k : Int) + 1) = false := by
      unfold hasB
      apply decide_eq_false
      rintro ⟨h1, h2, h3⟩
      rw [One_length] at h2
      have e : ((k : Int) + 1).toNat = k + 1 := by omega
      rw [e, One_get k hk2 (k + 1) (by omega), if_neg (by omega)] at h3
      omega
    refine (Put_no _ _ p2 g3 (One k) ((k : Int) + 1) hno1 (okOne k hk2) w10 HT210.out).mono ?_
    rintro e w11 ⟨rfl, m11, rfl⟩
    go_wp2_with fail
    have hno2 : hasB Z20 (k : Int) = false := by
      unfold hasB
      apply decide_eq_false
      rintro ⟨h1, h2, h3⟩
      rw [Int.toNat_natCast] at h3
      have h : ∀ s < 20, Z20.getD s 0 = 0 := by decide +kernel
      rw [h k hk2] at h3
      omega
    refine (Put_no _ _ p1 g3 Z20 (k : Int) hno2 okZ20 (w10.drewN m11) (by exact HT110.out.fr ((Fr.refl _ No).drewN m11) (fun _ _ _ e => e))).mono ?_
    rintro e w12 ⟨rfl, m12, rfl⟩
    obtain ⟨w13, hw13⟩ : ∃ w13, w13 = (w10.drewN m11).drewN m12 := ⟨_, rfl⟩
    have HW13 := Aside0.mk (show IsWr w8.heap.size w13 g3 _ by rw [hw13]; exact HW10.out)
    have HR13 := Aside0.mk (show IsR (w4.heap.size + 1) w13 g1 [b] _ _ by rw [hw13]; exact HR110.out)
    have HB13 := Aside0.mk (show Below w.heap.size w w13 by rw [hw13]; exact pw_below_drewN (pw_below_drewN HB10.out _) _)
    rw [← hw13]
    clear hw13 HW10 HR110 HB10 HT110 HT210
    go_wp2_with fail
    obtain ⟨w14, hw14⟩ : ∃ w14, w14 = w13 := ⟨_, rfl⟩
    rw [← hw14] at HW13 HB13 ⊢
    clear hw14
    have HBY := Aside0.mk (Bytes_calls _ g3 _ w14 HW13.out)
    rw [show packB ([] ++ highD ((0 : Nat) : Int) 1) = [0] from by kernel_rfl] at HBY
    rw [show ([0] : List Int).length = 1 from rfl] at HBY
    refine HBY.out.mono ?_
    clear HBY
    rintro e w15 ⟨A, c, rfl, hr, hb15⟩
    have HB15 := Aside0.mk (below_step HB13.out hb15)
    have h2 := Kd.R_reads' hr
    have HSB := Aside0.mk (fun (o : Obj) => SameB_calls A (some ⟨w15.heap.size, 0, none⟩) c 1 [0] (w15.alloc (.cells #[.int .u8 0] 5)) (Kd.C_alloc h2.2.2 _) h2.2.1 (C_row (Kd.int .u8) (fun x => [.int .u8 x]) (fun _ _ => rfl) w15 5 (0, 0) [0] (by decide)) (by decide))
    clear hr hb15 h2
    go_wp2_with fail
    refine (HSB.out (.map #[] 0)).mono ?_
    rintro e w16 ⟨rfl, m16, rfl⟩
    go_wp2_with fail
    refine (wakes3 _).mono ?_
    rintro e w17 ⟨rfl, hw⟩
    go_wp2_with fail
    go_ret
    exact ⟨rfl, below_step (pw_below_drewN (below_alloc HB15.out _) m16) hw⟩
theorem HuffOne_row (a : Int) (a0 : (Lit.int .i64 a).wf = true) (b : Int) (b0 : (Lit.int .u8 b).wf = true) (w : World) : Calls Try.prog 10 #[.int .i64 a, .int .u8 b] w fun e w' => e = .returned (.bool true) ∧ Below w.heap.size w w' := by
  have hb : 0 ≤ b ∧ b ≤ 255 := by
    simp [Lit.wf, IntKind.min, IntKind.max, IntKind.signed, IntKind.bits] at b0
    omega
  exact HuffOne_walk a b (i64_wf a0).1 (i64_wf a0).2 hb.1 hb.2 w
end Go.Proofs.Ytihgekpijplfiaa.Hn
