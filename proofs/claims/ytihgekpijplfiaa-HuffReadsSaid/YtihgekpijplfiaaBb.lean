/- BitsBack is true for any numbers and counts. Conditions: the slices read as numbers. -/
import Derived.Test.YtihgekpijplfiaaBa
import Derived.Test.YtihgekpijplfiaaDig
namespace Go.Proofs.Ytihgekpijplfiaa.Rf
set_option linter.unusedVariables false
open Go.RowKit Go.Proofs.YtihgekpijplfiaaW.PrintWords Go.Proofs.YtihgekpijplfiaaW.PrintLast Go.Proofs.YtihgekpijplfiaaW.PrintMore Go.Proofs.Ytihgekpijplfiaa.PBitsRead Go.Proofs.Ytihgekpijplfiaa.Pack Go.Proofs.Ytihgekpijplfiaa.Wr Go.Proofs.Ytihgekpijplfiaa.Rd Go.Proofs.Ytihgekpijplfiaa.Fr Go.Proofs.Ytihgekpijplfiaa.Kit Go.Proofs.Ytihgekpijplfiaa.Dig
theorem C_at {k : IntKind} {xs : List Int} {W : World} {ad : Addr} {n : Nat} (h : (Kd.int k).C W (some ad) n xs) (i : Nat) (hi : i < n) : W.cell? (ad.add i) = some (.int k (rd xs (i : Int))) := by
  obtain ⟨ad', e, hx⟩ := Kd.at_int h (i : Int) (by omega) (by omega)
  injection e with e
  subst e
  rwa [Int.toNat_natCast] at hx
theorem wr_below {b g m : Nat} {ds : List Int} {w W W' : World} (hI : IsWr b W g ds) (hS : WStep (W.drewN m) W' g) (hB : Below b w W) : Below b w W' := IsW.below (W := W.drewN m) hI.1 hS (pw_below_drewN hB m)
theorem pow16 (c : Nat) (hc : c ≤ 16) : ∃ p : Int, (2 : Int) ^ c = p ∧ 1 ≤ p ∧ p ≤ 65536 ∧ IntKind.i64.wrap (2 ^ c) = p := by
  have h : ∀ c ≤ 16, (1 : Int) ≤ 2 ^ c ∧ (2 : Int) ^ c ≤ 65536 := by decide +kernel
  have := h c hc
  refine ⟨2 ^ c, rfl, this.1, this.2, ?_⟩
  generalize (2 : Int) ^ c = p at *
  rw [IntKind.wrap_i64]
  omega
theorem min3_nat (ats : Array TypeId) (ty : TypeId) (a b c : Nat) : Builtin.min_ ats ty #[.int .i64 (a : Int), .int .i64 (b : Int), .int .i64 (c : Int)] = pure (.int .i64 ((min (min a b) c : Nat) : Int)) := by
  rw [min_three, min2_int, pure_bind, min2_int, pure_bind]
  congr 2
  split <;> split <;> omega
def I64s (xs : List Int) : Prop := ∀ x ∈ xs, -9223372036854775808 ≤ x ∧ x ≤ 9223372036854775807
theorem I64s_rd {xs : List Int} (h : I64s xs) (i : Nat) (hi : i < xs.length) : -9223372036854775808 ≤ rd xs (i : Int) ∧ rd xs (i : Int) ≤ 9223372036854775807 := by
  have : rd xs (i : Int) = xs[i] := by simp [rd, List.getD_eq_getElem?_getD, hi]
  rw [this]
  exact h _ (List.getElem_mem _)
set_option maxHeartbeats 8000000 in
set_option maxRecDepth 100000 in
theorem BitsBack_walk (A0 A1 : Option Addr) (c0 c1 : Nat) (ns cs : List Int) (w : World) (hr0 : Kd.C (Kd.int .i64) w A0 ns.length ns) (hr1 : Kd.C (Kd.int .i64) w A1 cs.length cs) (hw0 : I64s ns) (hw1 : I64s cs) :
    Calls Try.prog 8 #[.slice A0 ns.length c0, .slice A1 cs.length c1] w fun e w' => e = .returned (.bool true) ∧ Below w.heap.size w w' := by
  have H0 := Aside0.mk hr0
  have H1 := Aside0.mk hr1
  have HW := Aside0.mk (And.intro hw0 hw1)
  have hl0 := hr0.2.1
  have hl1 := hr1.2.1
  have hmin := fun ats ty => min3_nat ats ty ns.length cs.length 20
  rw [show ((20 : Nat) : Int) = 20 from rfl] at hmin
  obtain ⟨n, hn⟩ : ∃ n, n = min (min ns.length cs.length) 20 := ⟨_, rfl⟩
  rw [← hn] at hmin
  have n20 : (n : Int) ≤ 20 := by omega
  have HN := Aside0.mk (show n ≤ ns.length ∧ n ≤ cs.length ∧ n ≤ 20 by omega)
  clear hn
  clear hr0 hr1 hw0 hw1
  go_enter Try.func8, Try.ntmps8
  go_wp2_with fail
  refine (NewW_calls _).mono ?_
  rintro e w1 ⟨g, rfl, hw, hb⟩
  have HI := Aside0.mk hw
  have HB := Aside0.mk hb
  clear hw hb
  go_wp2_with fail
  clear hmin
  have HF0 := Aside0.mk (show IsWr w.heap.size w1 g (digs ns cs 0) from HI.out)
  go_loopg [7, 8] n (fun gk v7 v8 w' => ∃ i : Nat, v8 = .int .i64 (i : Int) ∧ v7 = .int .i64 ((digs ns cs i).length : Int) ∧ Aside0 (i + gk = n) ∧ Aside0 (IsWr w.heap.size w' g (digs ns cs i)) ∧ Aside0 (Below w.heap.size w w'))
  case atStart => exact ⟨0, rfl, rfl, ⟨by omega⟩, HF0, HB⟩
  case round =>
    clear HI HF0 HB
    obtain ⟨i, rfl, rfl, HK, HI, HB⟩ := hrel
    obtain ⟨wo, rfl⟩ : ∃ wo : World, wo = wr := ⟨_, rfl⟩
    by_cases hi : i < n
    · have hi1 : (i : Int) < (n : Int) := by omega
      have q1 : (i : Int) < (ns.length : Int) := by have := HN.out; omega
      have q2 : (i : Int) < (cs.length : Int) := by have := HN.out; omega
      obtain ⟨ad0, ea0, hx0⟩ := Kd.at_int (Kd.C_below H0.out HB.out) (i : Int) (by omega) q1
      obtain ⟨ad1, ea1, hx1⟩ := Kd.at_int (Kd.C_below H1.out HB.out) (i : Int) (by omega) q2
      rw [Int.toNat_natCast] at hx0 hx1
      subst ea0 ea1
      have hlen := digs_length_le ns cs i
      have hll : ((digs ns cs i).length : Int) ≤ 640 := by omega
      have HLN := Aside0.mk hlen
      clear hlen
      have r0 := I64s_rd HW.out.1 i (by omega)
      have r1 := I64s_rd HW.out.2 i (by omega)
      have HV := Aside0.mk (show vv ns i = rd ns (i : Int) % 65536 by unfold vv rd; rw [Int.toNat_natCast])
      have HC := Aside0.mk (show ((cc cs i : Nat) : Int) = rd cs (i : Int) % 17 by unfold cc rd; rw [Int.toNat_natCast]; omega)
      have HX0 := Aside0.mk (fun (W : World) (hB : Below w.heap.size w W) => C_at (Kd.C_below H0.out hB) i (by omega))
      generalize rd ns (i : Int) = x0 at *
      generalize rd cs (i : Int) = x1 at *
      go_wp2_with fail
      have hw := within_nat x1 17 r1.1 r1.2 (by omega) (by omega) wo
      rw [show ((17 : Nat) : Int) = 17 from rfl] at hw
      refine hw.mono ?_
      clear hw
      rintro e w3 ⟨c, hc1, hc2, rfl, m3, rfl⟩
      have hcc : cc cs i = c := by have := HC.out; omega
      have HCC := Aside0.mk hcc
      clear hc1 hcc
      have hc16 : (c : Int) ≤ 16 := by omega
      go_wp2_with fail
      have hw := within_nat x0 65536 r0.1 r0.2 (by omega) (by omega) (wo.drewN m3)
      rw [show ((65536 : Nat) : Int) = 65536 from rfl] at hw
      refine hw.mono ?_
      clear hw
      rintro e w4 ⟨v, hv1, hv2, rfl, m4, rfl⟩
      have hvv : vv ns i = (v : Int) := by have := HV.out; omega
      have HVV := Aside0.mk hvv
      have hv3 : (v : Int) ≤ 65535 := by omega
      clear hv1 hvv hv2
      go_wp2_with fail
      refine (Put_calls w.heap.size g (digs ns cs i) v c (by omega) (by omega) (by omega) (by omega) _ (by exact HI.out)).mono ?_
      rintro e w5 ⟨rfl, hI, hS⟩
      replace HB := Aside0.mk (wr_below HI.out hS HB.out)
      replace HI := Aside0.mk hI
      clear hx0 hx1 hI hS
      have hx0 := HX0.out _ HB.out
      go_wp2_with fail
      have hw := within_nat x0 65536 r0.1 r0.2 (by omega) (by omega) w5
      rw [show ((65536 : Nat) : Int) = 65536 from rfl] at hw
      refine hw.mono ?_
      clear hw
      rintro e w6 ⟨v', hv1, hv2, rfl, m6, rfl⟩
      obtain rfl : v' = v := by have := HV.out; have := HVV.out; omega
      clear hv1 hv2
      have hbd : (digs ns cs i ++ lowD (v' : Int) c).length + c ≤ 1000000000000 := by
        rw [List.length_append, lowD_length]
        have := HLN.out
        have := HN.out
        omega
      go_wp2_with fail
      refine (Code_calls w.heap.size g _ v' c (by omega) (by omega) (by omega) hbd _ (by exact HI.out)).mono ?_
      rintro e w7 ⟨rfl, hI, hS⟩
      replace HB := Aside0.mk (wr_below HI.out hS HB.out)
      replace HI := Aside0.mk hI
      clear hx0 hI hS
      have HE := Aside0.mk (show digs ns cs i ++ lowD (v' : Int) c ++ highD (v' : Int) c = digs ns cs (i + 1) by
        rw [digs, blk, HVV.out, HCC.out, List.append_assoc])
      rw [HE.out] at HI
      go_wp2_with fail
      obtain ⟨g', rfl⟩ : ∃ g', gk = g' + 1 := ⟨gk - 1, by have := HK.out; omega⟩
      have hsl := digs_succ_length ns cs i
      rw [HCC.out] at hsl
      go_roundg g'
      case measure => omega
      case rel => exact ⟨i + 1, by go_num, by rw [hsl]; congr 1, ⟨by have := HK.out; omega⟩, HI, HB⟩
    · obtain rfl : i = n := by have := HK.out; omega
      clear HK
      have HLN := Aside0.mk (digs_length_le ns cs i)
      have n20' : (i : Int) ≤ 20 := n20
      go_wp2_with fail
      refine (Bytes_calls w.heap.size g _ wo HI.out).mono ?_
      rintro e w2 ⟨A, c, rfl, hR, hB⟩
      have HR := Aside0.mk hR
      replace HB := Aside0.mk (below_step HB.out hB)
      clear hB HI
      have hpl := packB_length (digs ns cs i)
      have HNR := Aside0.mk (NewR_fr A c (packB (digs ns cs i)) w2 (Kd.R_reads' hR).2.2 (fun e => by subst e; exact R_none hR) (by have := HLN.out; omega))
      clear hR
      have H01 := Aside0.mk (digs_01 ns cs i)
      obtain ⟨L, hL⟩ : ∃ L, (digs ns cs i).length = L := ⟨_, rfl⟩
      obtain ⟨P, hP⟩ : ∃ P, (packB (digs ns cs i)).length = P := ⟨_, rfl⟩
      have hPL : P = (L + 7) / 8 := by omega
      have hL640 : (L : Int) ≤ 640 := by have := HLN.out; omega
      have z1 : ((L : Int) + 7) / 8 = (P : Int) := by omega
      rw [hP] at HNR HR ⊢
      rw [hL]
      have HP := Aside0.mk (And.intro hP (And.intro hL hPL))
      clear hP hL hpl hPL
      go_wp2_with fail
      refine HNR.out.mono ?_
      clear HNR
      rintro e w3 ⟨gr, rfl, hI, hB, hsz⟩
      have HI := Aside0.mk hI
      have HG := Aside0.mk (show w.heap.size ≤ gr from Nat.le_trans HB.out.size hI.ge.1)
      replace HB := Aside0.mk (below_step HB.out hB)
      clear hI hB hsz
      go_wp2_with fail
      clear z1
      have HF0 := Aside0.mk (show IsR w2.heap.size w3 gr (packB (digs ns cs i)) (digs ns cs 0).length false from HI.out)
      have HFF := Aside0.mk (Fr.refl w3 (fun j => j = gr))
      have HX0 := Aside0.mk (fun (j : Nat) (hj : j < i) (W : World) (hF : Fr w3 W (fun j => j = gr)) => Kd.at_int (Kd.C_below H0.out (Fr.below HB.out hF (fun k hk => by have : k = gr := hk; have := HG.out; omega) HB.out.size)) (j : Int) (by omega) (by have := HN.out; omega))
      have HX1 := Aside0.mk (fun (j : Nat) (hj : j < i) (W : World) (hF : Fr w3 W (fun j => j = gr)) => Kd.at_int (Kd.C_below H1.out (Fr.below HB.out hF (fun k hk => by have : k = gr := hk; have := HG.out; omega) HB.out.size)) (j : Int) (by omega) (by have := HN.out; omega))
      have HRD := Aside0.mk (fun (j : Nat) (hj : j < i) => And.intro (I64s_rd HW.out.1 j (by have := HN.out; omega)) (I64s_rd HW.out.2 j (by have := HN.out; omega)))
      go_loopg [12] i (fun gk v12 w' => ∃ j : Nat, v12 = .int .i64 (j : Int) ∧ Aside0 (j + gk = i) ∧ Aside0 (IsR w2.heap.size w' gr (packB (digs ns cs i)) (digs ns cs j).length false) ∧ Aside0 (Fr w3 w' (fun j => j = gr)))
      case atStart => exact ⟨0, rfl, ⟨by omega⟩, HF0, HFF⟩
      case round =>
        clear HF0 HFF HI
        obtain ⟨j, rfl, HK, HI, HF⟩ := hrel
        obtain ⟨go, rfl⟩ : ∃ go : Nat, go = gk := ⟨_, rfl⟩
        obtain ⟨wo, rfl⟩ : ∃ wo : World, wo = wr := ⟨_, rfl⟩
        by_cases hj : j < i
        · have hj1 : (j : Int) < (i : Int) := by omega
          obtain ⟨ad0, ea0, hx0⟩ := HX0.out j hj wo HF.out
          obtain ⟨ad1, ea1, hx1⟩ := HX1.out j hj wo HF.out
          rw [Int.toNat_natCast] at hx0 hx1
          subst ea0 ea1
          obtain ⟨r0, r1⟩ := HRD.out j hj
          have HV := Aside0.mk (show vv ns j = rd ns (j : Int) % 65536 by unfold vv rd; rw [Int.toNat_natCast])
          have HC := Aside0.mk (show ((cc cs j : Nat) : Int) = rd cs (j : Int) % 17 by unfold cc rd; rw [Int.toNat_natCast]; omega)
          generalize rd ns (j : Int) = x0 at *
          generalize rd cs (j : Int) = x1 at *
          have q1 : (j : Int) < (ns.length : Int) := by have := HN.out; omega
          have q2 : (j : Int) < (cs.length : Int) := by have := HN.out; omega
          go_wp2_with fail
          have hw := within_nat x1 17 r1.1 r1.2 (by omega) (by omega) wo
          rw [show ((17 : Nat) : Int) = 17 from rfl] at hw
          refine hw.mono ?_
          clear hw
          rintro e w4 ⟨c, hc1, hc2, rfl, m4, rfl⟩
          have hcc : cc cs j = c := by have := HC.out; omega
          have HCC := Aside0.mk hcc
          clear hc1 hcc
          have hc16 : (c : Int) ≤ 16 := by omega
          go_wp2_with fail
          have hw := within_nat x0 65536 r0.1 r0.2 (by omega) (by omega) (wo.drewN m4)
          rw [show ((65536 : Nat) : Int) = 65536 from rfl] at hw
          refine hw.mono ?_
          clear hw
          rintro e w5 ⟨v, hv1, hv2, rfl, m5, rfl⟩
          have hvv : vv ns j = (v : Int) := by have := HV.out; omega
          have HVV := Aside0.mk hvv
          have hv3 : (v : Int) ≤ 65535 := by omega
          clear hv1 hvv hv2
          obtain ⟨p, hp0, hp1, hp2, hp3⟩ := pow16 c (by omega)
          have HP0 := Aside0.mk hp0
          clear hp0
          have hsl := digs_succ_length ns cs j
          have hmo := digs_mono ns cs (show j + 1 ≤ i by omega)
          rw [HCC.out] at hsl
          have HB8 := Aside0.mk (show (digs ns cs j).length + c + c ≤ 8 * (packB (digs ns cs i)).length ∧ (packB (digs ns cs i)).length ≤ 140737488355328 by
            have := HP.out
            omega)
          have HSL := Aside0.mk hsl
          have hget := back_get ns cs i j hj
          rw [HCC.out, HVV.out, HP0.out] at hget
          have HGET := Aside0.mk (Get_fr w2.heap.size gr (packB (digs ns cs i)) (digs ns cs j).length c (by omega) (by have := HB8.out; omega) HB8.out.2 (wo.drewN (m4 + m5)) (HI.out.drewN _))
          rw [hget] at HGET
          have HBIT := Aside0.mk (fun (k : Nat) (hk : k < c) (W : World) (hI : IsR w2.heap.size W gr (packB (digs ns cs i)) ((digs ns cs j).length + c + k) false) => Bit_fr w2.heap.size gr (packB (digs ns cs i)) ((digs ns cs j).length + c + k) (by have := HB8.out; omega) HB8.out.2 W hI)
          have HBV := Aside0.mk (fun (k : Nat) (hk : k < c) => back_bit ns cs i j k hj (by rw [HCC.out]; exact hk))
          rw [HCC.out, HVV.out] at HBV
          clear hsl hmo hget
          go_wp2_with fail
          refine HGET.out.mono ?_
          clear HGET
          rintro e w6 ⟨rfl, h1, h2⟩
          have HI6 := Aside0.mk h1
          have HF6 := Aside0.mk ((HF.out.drewN (m4 + m5)).then_ h2)
          clear h1 h2
          go_wp2_with fail
          have HC0 := Aside0.mk (show ((0 : Int)) = (v : Int) / 2 ^ (c - 0) % 2 ^ 0 by simp)
          go_loopg [15, 16] c (fun gk v15 v16 w' => ∃ (k : Nat) (x : Int), v16 = .int .i64 (k : Int) ∧ v15 = .int .i64 x ∧ Aside0 (x = (v : Int) / 2 ^ (c - k) % 2 ^ k) ∧ Aside0 (k + gk = c) ∧ Aside0 (IsR w2.heap.size w' gr (packB (digs ns cs i)) ((digs ns cs j).length + c + k) false) ∧ Aside0 (Fr w3 w' (fun j => j = gr)))
          case atStart => exact ⟨0, 0, rfl, rfl, HC0, ⟨by omega⟩, HI6, HF6⟩
          case round =>
            clear HI6 HF6 HC0 HI HF
            obtain ⟨k, x, rfl, rfl, HX, HKK, HI6, HF6⟩ := hrel
            obtain ⟨wi, rfl⟩ : ∃ wi : World, wi = wr := ⟨_, rfl⟩
            by_cases hk : k < c
            · have hk1 : (k : Int) < (c : Int) := by omega
              have hxr : 0 ≤ x ∧ x ≤ 65535 := by
                have := HX.out
                obtain ⟨q, hq0, hq1, hq2, _⟩ := pow16 k (by omega)
                rw [hq0] at this
                have h1 := Int.emod_nonneg ((v : Int) / 2 ^ (c - k)) (show q ≠ 0 by omega)
                have h2 := Int.emod_lt_of_pos ((v : Int) / 2 ^ (c - k)) (show 0 < q by omega)
                omega
              obtain ⟨hx0', hx1'⟩ := hxr
              have hb := bit01 (packB (digs ns cs i)) ((digs ns cs j).length + c + k)
              have HBX := Aside0.mk (HBV.out k hk)
              have HST := Aside0.mk (code_step v c k hk)
              have HBC := Aside0.mk (HBIT.out k hk wi HI6.out)
              generalize bitAt (packB (digs ns cs i)) ((digs ns cs j).length + c + k) = d at *
              have hd0 : 0 ≤ d := by omega
              have hd1 : d ≤ 1 := by omega
              clear hb
              go_wp2_with fail
              refine HBC.out.mono ?_
              clear HBC
              rintro e w7 ⟨rfl, h1, h2⟩
              replace HI6 := Aside0.mk h1
              replace HF6 := Aside0.mk (HF6.out.then_ h2)
              clear h1 h2
              go_wp2_with fail
              obtain ⟨g', rfl⟩ : ∃ g', gk = g' + 1 := ⟨gk - 1, by have := HKK.out; omega⟩
              go_roundg g'
              case measure => omega
              case rel => exact ⟨k + 1, 2 * x + d, by go_num, rfl, ⟨by rw [HST.out, HX.out, HBX.out]⟩, ⟨by have := HKK.out; omega⟩, HI6, HF6⟩
            · obtain rfl : k = c := by have := HKK.out; omega
              have hx : x = (v : Int) % p := by
                have := HX.out
                rw [Nat.sub_self, Int.pow_zero, Int.ediv_one, HP0.out] at this
                exact this
              subst hx
              clear HKK HX
              go_wp2_with fail
              obtain ⟨g', rfl⟩ : ∃ g', go = g' + 1 := ⟨go - 1, by have := HK.out; omega⟩
              go_roundg g'
              case measure => omega
              case rel =>
                refine ⟨j + 1, by go_num, ⟨by have := HK.out; omega⟩, ⟨?_⟩, HF6⟩
                rw [HSL.out, show (digs ns cs j).length + 2 * k = (digs ns cs j).length + k + k from by omega]
                exact HI6.out
        · obtain rfl : j = i := by have := HK.out; omega
          clear HK
          obtain ⟨r, hr⟩ : ∃ r : Nat, r = 8 * P - L := ⟨_, rfl⟩
          have hpp := HP.out
          have hr0 : 8 * (P : Int) - (L : Int) = (r : Int) := by omega
          have HR7 := Aside0.mk (show r ≤ 7 ∧ L + r = 8 * P by omega)
          have hr7 : (r : Int) ≤ 7 := by omega
          have HBS := Aside0.mk (show (packB (digs ns cs j)).length ≤ 140737488355328 by omega)
          have HLE := Aside0.mk (Left_fr w2.heap.size gr (packB (digs ns cs j)) (digs ns cs j).length false (by omega) HBS.out)
          have HG9 := Aside0.mk (Get_fr w2.heap.size gr (packB (digs ns cs j)) (digs ns cs j).length r (by omega) (by omega) HBS.out)
          have HB9 := Aside0.mk (Bit_bad_fr w2.heap.size gr (packB (digs ns cs j)) ((digs ns cs j).length + r) false (.inr (by omega)) (by omega) HBS.out)
          rw [back_rest _ H01.out] at HG9
          rw [hpp.1, hpp.2.1, hr0] at HLE
          clear hr hpp
          go_wp2_with fail
          refine (Bad_fr _ gr _ _ false _ HI.out).mono ?_
          rintro e _ ⟨rfl, rfl⟩
          go_wp2_with fail
          refine (HLE.out _ (by rw [← HP.out.2.1]; exact HI.out)).mono ?_
          rintro e w4 ⟨rfl, m4, rfl⟩
          go_wp2_with fail
          refine (HLE.out _ (by rw [← HP.out.2.1]; exact HI.out.drewN m4)).mono ?_
          rintro e w5 ⟨rfl, m5, rfl⟩
          go_wp2_with fail
          refine (HG9.out _ (by exact (HI.out.drewN m4).drewN m5)).mono ?_
          rintro e w6 ⟨rfl, h1, h2⟩
          replace HI := Aside0.mk h1
          replace HF := Aside0.mk ((HF.out.drewN (m4 + m5)).then_ (by exact h2))
          clear h1 h2
          go_wp2_with fail
          refine (HB9.out _ HI.out).mono ?_
          rintro e w7 ⟨rfl, h1, h2⟩
          replace HI := Aside0.mk h1
          replace HF := Aside0.mk (HF.out.then_ h2)
          clear h1 h2
          go_wp2_with fail
          refine (Bad_fr _ gr _ _ true _ HI.out).mono ?_
          rintro e _ ⟨rfl, rfl⟩
          go_wp2_with fail
          refine (wakes_calls _).mono ?_
          rintro e w8 ⟨rfl, hw⟩
          go_wp2_with fail
          go_ret
          exact ⟨rfl, below_step (Fr.below HB.out HF.out (fun k hk => by have : k = gr := hk; have := HG.out; omega) HB.out.size) hw⟩
theorem i64s_wf {l : List Int} (h : ∀ x ∈ l, (Lit.int .i64 x).wf = true) : I64s l := fun x hx => i64_wf (h x hx)
theorem BitsBack_row (w : World) (A0 : Option Addr) (c0 : Nat) (l0 : List Int) (hr0 : Kd.C (Kd.int .i64) w A0 l0.length l0) (hc0 : l0.length ≤ c0) (hw0 : ∀ x ∈ l0, (Lit.int .i64 x).wf = true) (hb0 : l0.length * 8 ≤ 140737488351232)
    (A1 : Option Addr) (c1 : Nat) (l1 : List Int) (hr1 : Kd.C (Kd.int .i64) w A1 l1.length l1) (hc1 : l1.length ≤ c1) (hw1 : ∀ x ∈ l1, (Lit.int .i64 x).wf = true) (hb1 : l1.length * 8 ≤ 140737488351232) :
    Calls Try.prog 8 #[.slice A0 l0.length c0, .slice A1 l1.length c1] w fun e w' => e = .returned (.bool true) ∧ Below w.heap.size w w' :=
  BitsBack_walk A0 A1 c0 c1 l0 l1 w hr0 hr1 (i64s_wf hw0) (i64s_wf hw1)
end Go.Proofs.Ytihgekpijplfiaa.Rf
