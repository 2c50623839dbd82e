/- florilegiumlaw04.LzBack returns true, whatever bytes and ints it is given, and leaves what was in memory. Conditions: the slices that come in read as numbers, the bytes as bytes. -/
import Derived.Test.YtfibhkfpnnpbpaaSame
import Derived.Test.YtfibhkfpnnpbpaaCode
import Derived.Test.YtfibhkfpnnpbpaaWakes
import Derived.Test.YtfibhkfpnnpbpaaText
import Derived.IntWalk
import Derived.Deep.QuietTactic
import Derived.BigQuiet
namespace Go.Proofs.Ytfibhkfpnnpbpaa.PLzForms
open Go.RowKit Go.Proofs.YtfibhkfpnnpbpaaW.PrintWords Go.Proofs.YtfibhkfpnnpbpaaW.PrintLast Go.Proofs.YtfibhkfpnnpbpaaW.PrintMore
open Go.Proofs.Ytfibhkfpnnpbpaa.Kit Go.Proofs.Ytfibhkfpnnpbpaa.Codes
attribute [local go_sem] max2_int min2_int max_two min_two max_three min_three max_four min_four
set_option linter.unusedVariables false
set_option maxHeartbeats 8000000 in
set_option maxRecDepth 100000 in
theorem LzBack_calls (A0 A1 A2 : Option Addr) (c0 c1 c2 : Nat) (bs fs ns : List Int) (w : World) (hb : Bytes bs) (hr0 : Kd.C (Kd.int .u8) w A0 bs.length bs) (hc0 : bs.length ≤ c0) (hl0 : bs.length ≤ 140737488355328)
    (hr1 : Kd.C (Kd.int .i64) w A1 fs.length fs) (hr2 : Kd.C (Kd.int .i64) w A2 ns.length ns) :
    Calls Try.prog 5 #[.slice A0 bs.length c0, .slice A1 fs.length c1, .slice A2 ns.length c2] w fun e w' => e = .returned (.bool true) ∧ Below w.heap.size w w' := by
  have hu27 := Try.underlying27
  have HS := Aside0.mk (Text_calls A0 A1 A2 c0 c1 c2 bs fs ns w hb hr0 hc0 hl0 hr1 hr2)
  clear hr0 hr1 hr2 hc0 hl0 hb
  go_enter Try.func5, Try.ntmps5
  go_wp2_with fail
  refine HS.out.mono ?_
  clear HS
  rintro e w1 ⟨v, t, rfl, htl, hby, hR, hB⟩
  have HT := Aside0.mk hR
  have HB := Aside0.mk hB
  have HTL := Aside0.mk htl
  clear hR hB hby htl
  obtain ⟨At, ct, et⟩ := Kd.R_slice HT.out
  subst et
  have HS := Aside0.mk (Split_calls At ct t (by have := HTL.out; omega) w1 (Kd.R_reads' HT.out).2.2 (Kd.R_reads' HT.out).2.1)
  go_wp2_with fail
  refine HS.out.mono ?_
  clear HS
  rintro e w2 ⟨v2, rfl, hR, hB⟩
  have HO := Aside0.mk hR
  replace HT := Aside0.mk (Kd.R_below HT.out hB)
  replace HB := Aside0.mk (below_step HB.out hB)
  clear hR hB
  have HST := Aside0.mk (split_steps t)
  have HJ := Aside0.mk (split_join t (by have := HTL.out; omega))
  have hll : (splitS t t.length 0).length ≤ 800 := Nat.le_trans (splitS_length t t.length 0) HTL.out
  generalize splitS t t.length 0 = l at *
  have HLL := Aside0.mk hll
  clear hll
  obtain ⟨Al, cl, el⟩ := Kd.R_slice HO.out
  subst el
  have HL := Aside0.mk (Kd.R_reads' HO.out)
  have HU := Aside0.mk (Kd.R_reads' HT.out)
  clear HO HT
  go_wp2_with fail
  have HW := Aside0.mk (Below.refl w2.heap.size w2)
  go_loopg [6, 9, 23] l.length (fun g v6 v9 v23 w' => ∃ (i at_ : Nat), v6 = .bool false ∧ v9 = .int .i64 (at_ : Int) ∧ v23 = .int .i64 (i : Int) ∧ Aside0 (i + g = l.length ∧ at_ ≤ 800) ∧ Aside0 (Steps27 t at_ (l.drop i)) ∧ Aside0 (Below w2.heap.size w2 w'))
  case atStart => exact ⟨0, 0, rfl, rfl, rfl, ⟨by omega, by omega⟩, HST, HW⟩
  case round =>
    clear HST HW
    obtain ⟨i, at_, rfl, rfl, rfl, HG, HST, HW⟩ := hrel
    obtain ⟨go, rfl⟩ : ∃ go : Nat, go = gk := ⟨_, rfl⟩
    obtain ⟨wo, rfl⟩ : ∃ wo : World, wo = wr := ⟨_, rfl⟩
    by_cases hi : i < l.length
    · have hd := HST.out
      rw [List.drop_eq_getElem_cons hi] at hd
      have hs : rd_T27 l (i : Int) = l[i] := by simp [rd_T27, List.getD_eq_getElem?_getD, hi]
      have p1 : (i : Int) < (l.length : Int) := by omega
      have hi8 : (i : Int) ≤ 800 := by have := HLL.out; omega
      obtain ⟨ad, ea, hx0, hx1, hx2⟩ := at_T27 (Kd.C_below HL.out.2.2 HW.out) (i : Int) (by omega) p1
      rw [hs] at hx0 hx1 hx2
      rw [Int.toNat_natCast] at hx0 hx1 hx2
      generalize l[i] = s at *
      cases hd with
      | more h1 h2 h3 =>
        obtain ⟨f0, f1, f2⟩ := s
        subst ea
        clear HST hs
        have HN := Aside0.mk h3
        have at1 : at_ < t.length := h1
        have HAT := Aside0.mk at1
        clear h3
        rcases h2.kind with ⟨e1, e2, e0⟩ | ⟨a1, a2, a3, a4, a5, a6, a7, a8⟩
        · have e1' : f1 = 0 := e1
          have e2' : f2 = 0 := e2
          subst e1' e2'
          clear e1 e2
          obtain ⟨ad3, ea3, hx3⟩ := Kd.at_int (Kd.C_below HU.out.2.2 HW.out) (at_ : Int) (by omega) (by omega)
          rw [Int.toNat_natCast, ← show f0 = rd t (at_ : Int) from e0] at hx3
          subst ea3
          have d1 : decide (t.length ≤ at_) = false := decide_eq_false (by omega)
          have hx3a := fun o => pw_cell_below (below_alloc (Below.refl wo.heap.size wo) o) hx3
          have q1 : (at_ : Int) < (t.length : Int) := by omega
          have h800 : (at_ : Int) ≤ 800 := by have := HG.out; omega
          clear e0 h1 h2
          go_wp2_with fail
          go_quiet (fail)
          go_wp2_with fail
          obtain ⟨g', rfl⟩ : ∃ g', go = g' + 1 := ⟨go - 1, by have := HG.out; omega⟩
          go_roundg g'
          case measure => omega
          case rel =>
            refine ⟨i + 1, at_ + 1, rfl, by go_num, by go_num, ⟨by have := HG.out; omega, by have := HAT.out; have := HTL.out; omega⟩, HN, ⟨?_⟩⟩
            exact pw_below_drewN (below_alloc HW.out _) _
        · obtain ⟨n1, rfl⟩ := Int.eq_ofNat_of_zero_le (show 0 ≤ f1 by have : 3 ≤ f1 := a1; omega)
          obtain ⟨n2, rfl⟩ := Int.eq_ofNat_of_zero_le (show 0 ≤ f2 by have : 1 ≤ f2 := a3; omega)
          have b1 : (3 : Int) ≤ (n1 : Int) := a1
          have b2 : (n1 : Int) ≤ 258 := a2
          have b3 : (1 : Int) ≤ (n2 : Int) := a3
          have b4 : (n2 : Int) ≤ (at_ : Int) := a4
          have b5 : (n2 : Int) ≤ 1024 := a5
          have b6 : (at_ : Int) + (n1 : Int) ≤ (t.length : Int) := a6
          have HEQ := Aside0.mk (show ∀ j : Nat, j < n1 → t[at_ + j]? = t[at_ - n2 + j]? from fun j hj => a8 j (by show (j : Int) < (n1 : Int); omega))
          have h800 : (at_ : Int) ≤ 800 := by have := HG.out; omega
          have h801 : (t.length : Int) ≤ 800 := by have := HTL.out; omega
          have e0 : ((n1 : Int) == 0) = false := by simp; omega
          clear a1 a2 a3 a4 a5 a6 a7 a8 h1 h2
          go_wp2_with fail
          have HIN := Aside0.mk (show (at_ : Int) + (n1 : Int) ≤ 800 by omega)
          go_loopg [6, 12] n1 (fun g v6 v12 w' => ∃ j : Nat, v6 = .bool false ∧ v12 = .int .i64 (j : Int) ∧ Aside0 (j + g = n1) ∧ Drawn0 (wo.alloc (.cells #[.int .u8 f0, .int .i64 (n1 : Int), .int .i64 (n2 : Int)] 27)) w')
          case atStart => exact ⟨0, rfl, rfl, ⟨by omega⟩, Drawn0.refl _⟩
          case round =>
            obtain ⟨j, rfl, rfl, HG2, ⟨k2, rfl⟩⟩ := hrel
            by_cases hj : j < n1
            · have hj1 : (j : Int) < (n1 : Int) := by omega
              have heq := HEQ.out j hj
              obtain ⟨x, hx⟩ : ∃ x : Int, x = (at_ : Int) + (j : Int) := ⟨_, rfl⟩
              obtain ⟨y, hy⟩ : ∃ y : Int, y = x - (n2 : Int) := ⟨_, rfl⟩
              have hv : rd t x = rd t y := by
                rw [show x = ((at_ + j : Nat) : Int) from by omega, show y = ((at_ - n2 + j : Nat) : Int) from by omega]
                simp only [rd, Int.toNat_natCast, List.getD_eq_getElem?_getD, heq]
              have q1 : x < (t.length : Int) := by omega
              have q2 : 0 ≤ x := by omega
              have q3 : y < (t.length : Int) := by omega
              have q4 : 0 ≤ y := by omega
              obtain ⟨ad3, ea3, hx3⟩ := Kd.at_int (Kd.C_below HU.out.2.2 HW.out) x q2 q1
              obtain ⟨ad4, ea4, hx4⟩ := Kd.at_int (Kd.C_below HU.out.2.2 HW.out) y q4 q3
              rw [ea3] at ea4
              injection ea4 with ea4
              subst ea4
              subst ea3
              rw [← hv] at hx4
              have z1 : IntKind.i64.wrap ((at_ : Int) + (j : Int)) = x := by rw [hx]; exact IntWalk.i64_in _ (by omega)
              have z2 : IntKind.i64.wrap (x - (n2 : Int)) = y := by rw [hy]; exact IntWalk.i64_in _ (by omega)
              generalize rd t x = vb at hx3 hx4
              have hx3a := fun o => pw_cell_below (below_alloc (Below.refl wo.heap.size wo) o) hx3
              have hx4a := fun o => pw_cell_below (below_alloc (Below.refl wo.heap.size wo) o) hx4
              clear hv heq hx3 hx4 hx hy
              go_wp2_with fail
              go_quiet (fail)
              clear z1 z2
              go_wp2_with fail
              obtain ⟨g', rfl⟩ : ∃ g', gk = g' + 1 := ⟨gk - 1, by have := HG2.out; omega⟩
              go_roundg g'
              case measure => omega
              case rel => exact ⟨j + 1, rfl, by go_num, ⟨by have := HG2.out; omega⟩, ⟨⟨_, rfl⟩⟩⟩
            · have hj1 : ¬ (j : Int) < (n1 : Int) := by omega
              clear HG2
              go_wp2_with fail
              obtain ⟨g', rfl⟩ : ∃ g', go = g' + 1 := ⟨go - 1, by have := HG.out; omega⟩
              go_roundg g'
              case measure => omega
              case rel =>
                refine ⟨i + 1, at_ + n1, rfl, by go_num, by go_num, ⟨by have := HG.out; omega, by omega⟩, ⟨?_⟩, ⟨pw_below_drewN (below_alloc HW.out _) _⟩⟩
                have := HN.out
                rw [show (at_ + (max 1 (n1 : Int)).toNat) = at_ + n1 from by omega] at this
                exact this
    · have hp1 : ¬ (i : Int) < (l.length : Int) := by omega
      have hd := HST.out
      rw [List.drop_of_length_le (by omega)] at hd
      have hat : at_ = t.length := by cases hd; rfl
      subst hat
      clear hd HST HG
      have HR := Aside0.mk (Kd.C_below HU.out.2.2 HW.out)
      replace HB := Aside0.mk (below_step HB.out HW.out)
      have hj := Join_calls Al cl l wo (Kd.C_below HL.out.2.2 HW.out) HL.out.2.1
      rw [HJ.out] at hj
      have HS := Aside0.mk hj
      clear hj HJ
      go_wp2_with fail
      refine HS.out.mono ?_
      clear HS
      rintro e w69 ⟨v7, rfl, hR, hB⟩
      have HO7 := Aside0.mk (show Kd.R (Kd.int .u8) 5 w69 wo.heap.size (fun _ => True) v7 t from hR)
      replace HR := Aside0.mk (Kd.C_below HR.out hB)
      replace HB := Aside0.mk (below_step HB.out hB)
      clear hR hB
      obtain ⟨A7, c7, e7⟩ := Kd.R_slice HO7.out
      subst e7
      have HS := Aside0.mk (SameB_calls A7 At c7 ct t w69 (Kd.R_reads' HO7.out).2.2 (Kd.R_reads' HO7.out).2.1 HR.out HU.out.2.1)
      clear HO7 HR
      have hb7 : (finJ (some t)).2 = true := rfl
      have hq : ((t.length : Int) == (t.length : Int)) = true := by simp
      go_wp2_with fail
      refine HS.out.mono ?_
      clear HS
      rintro e w70 ⟨rfl, k9, rfl⟩
      replace HB := Aside0.mk (pw_below_drewN HB.out k9)
      go_wp2_with fail
      refine (wakes_calls _).mono ?_
      rintro e w71 ⟨rfl, hB⟩
      replace HB := Aside0.mk (below_step HB.out hB)
      clear hB
      go_wp2_with fail
      go_ret
      exact ⟨rfl, HB.out⟩
theorem bytes_wf {l : List Int} (h : ∀ x ∈ l, (Lit.int .u8 x).wf = true) : Bytes l := by
  intro x hx
  have := h x hx
  simp [Lit.wf, IntKind.min, IntKind.max, IntKind.signed, IntKind.bits] at this
  exact ⟨by omega, by omega⟩
theorem LzBack_walk (w : World) (A0 : Option Addr) (c0 : Nat) (l0 : List Int) (hr0 : Kd.C (Kd.int .u8) w A0 l0.length l0) (hc0 : l0.length ≤ c0) (hw0 : ∀ x ∈ l0, (Lit.int .u8 x).wf = true) (hb0 : l0.length * 1 ≤ 140737488351232)
    (A1 : Option Addr) (c1 : Nat) (l1 : List Int) (hr1 : Kd.C (Kd.int .i64) w A1 l1.length l1) (hc1 : l1.length ≤ c1) (hw1 : ∀ x ∈ l1, (Lit.int .i64 x).wf = true) (hb1 : l1.length * 8 ≤ 140737488351232)
    (A2 : Option Addr) (c2 : Nat) (l2 : List Int) (hr2 : Kd.C (Kd.int .i64) w A2 l2.length l2) (hc2 : l2.length ≤ c2) (hw2 : ∀ x ∈ l2, (Lit.int .i64 x).wf = true) (hb2 : l2.length * 8 ≤ 140737488351232) :
    Calls Try.prog 5 #[.slice A0 l0.length c0, .slice A1 l1.length c1, .slice A2 l2.length c2] w fun e w' => e = .returned (.bool true) ∧ Below w.heap.size w w' :=
  LzBack_calls A0 A1 A2 c0 c1 c2 l0 l1 l2 w (bytes_wf hw0) hr0 hc0 (by omega) hr1 hr2
end Go.Proofs.Ytfibhkfpnnpbpaa.PLzForms
