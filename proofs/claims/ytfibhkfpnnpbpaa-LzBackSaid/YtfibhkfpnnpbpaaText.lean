/- florilegiumkeep.Copy and Cut at bytes, and florilegiumlaw04.Text: new bytes, those that came in (so many), at most 800. Conditions: the slices that come in read as numbers. -/
import Derived.Test.YtfibhkfpnnpbpaaPLzFormsx2
import Derived.Test.YtfibhkfpnnpbpaaCode
namespace Go.Proofs.Ytfibhkfpnnpbpaa.PLzForms
open Go.RowKit Go.Proofs.YtfibhkfpnnpbpaaW.PrintWords Go.Proofs.YtfibhkfpnnpbpaaW.PrintLast Go.Proofs.YtfibhkfpnnpbpaaW.PrintMore
open Go.Proofs.Ytfibhkfpnnpbpaa.Kit Go.Proofs.Ytfibhkfpnnpbpaa.Codes
attribute [local go_sem] max2_int min2_int max_two min_two max_three min_three max_four min_four
set_option linter.unusedVariables false
set_option maxHeartbeats 1000000 in
theorem Copy_calls (A : Option Addr) (c : Nat) (xs : List Int) (w : World) (hr : Kd.C (Kd.int .u8) w A xs.length xs) (hl : xs.length ≤ 140737488355328) :
    Calls Try.prog 35 #[.slice A xs.length c] w fun e w' => ∃ v : Value, e = .returned v ∧ Kd.R (Kd.int .u8) 5 w' w.heap.size (fun _ => True) v xs ∧ Below w.heap.size w w' := by
  have HR := Aside0.mk hr
  clear hr
  go_enter Try.func35, Try.ntmps35
  go_wp2_with (at_builtin; refine Kd.R_append_rows (Kd.int .u8) (w0 := w) w.heap.size rfl (.const (.slice none 0 0)) (.tmp 3) 23 5 (.int .u8 0) 1 rfl Try.underlying23 info5 rfl (by decide) (by decide) (.slice none 0 0) [] xs A xs.length c (fun _ => True) (fun _ => False) rfl rfl (Kd.R_nil _ _ _ _ _) HR.out (fun x cs h => h) (fun _ hk => hk.elim) (fun _ _ => trivial) (Below.refl _ _) (Nat.le_refl _) (by simp; omega) ?_; intro v1 w1 ho hb hg hat; have HO := Aside0.mk ho; have HB := Aside0.mk hb; clear ho hb hg hat)
  rw [List.nil_append] at HO
  obtain ⟨A1, c1, e1⟩ := Kd.R_slice HO.out
  subst e1
  go_ret
  exact ⟨_, rfl, HO.out, HB.out⟩
set_option maxHeartbeats 1000000 in
theorem Cut_calls (A : Option Addr) (c n : Nat) (xs : List Int) (w : World) (hr : Kd.C (Kd.int .u8) w A xs.length xs) (hc : xs.length ≤ c) (hl : xs.length ≤ 140737488355328) (hn : n ≤ 1000000) :
    Calls Try.prog 29 #[.slice A xs.length c, .int .i64 (n : Int)] w fun e w' => ∃ v : Value, e = .returned v ∧ Kd.R (Kd.int .u8) 5 w' w.heap.size (fun _ => True) v (xs.take (min xs.length n)) ∧ Below w.heap.size w w' := by
  by_cases h : xs.length ≤ n
  · have h1 : (xs.length : Int) ≤ (n : Int) := by omega
    obtain ⟨i0, hi, _, hsz, _⟩ := info_parts info5
    have hp := print_take_int (P := Try.prog) (k := .u8) 23 5 Try.underlying23 hi hsz A c xs ((xs.length : Nat) : Int) (by omega) (by omega) hc
    have hlen : (xs.take (xs.length)).length = xs.length := by rw [List.length_take]; omega
    have hcut := hp.1
    rw [Int.toNat_natCast, hlen] at hcut
    rw [show min xs.length n = xs.length from by omega]
    have hs := Copy_calls A c (xs.take (xs.length)) w (Kd.C_take hr (by omega)) (by rw [hlen]; omega)
    rw [hlen] at hs
    clear hp hi hsz hlen
    generalize xs.take (xs.length) = ys at hs ⊢
    have HS := Aside0.mk hs
    clear hs hr
    go_enter Try.func29, Try.ntmps29
    go_wp2_with fail
    refine HS.out.mono ?_
    rintro e w1 ⟨v, rfl, hR, hB⟩
    have HO := Aside0.mk hR
    have HB := Aside0.mk hB
    clear hR hB HS
    obtain ⟨A1, c1, e1⟩ := Kd.R_slice HO.out
    subst e1
    go_wp2_with fail
    go_ret
    exact ⟨_, rfl, HO.out, HB.out⟩
  · have h1 : (n : Int) < (xs.length : Int) := by omega
    obtain ⟨i0, hi, _, hsz, _⟩ := info_parts info5
    have hp := print_take_int (P := Try.prog) (k := .u8) 23 5 Try.underlying23 hi hsz A c xs ((n : Nat) : Int) (by omega) (by omega) hc
    have hlen : (xs.take (n)).length = n := by rw [List.length_take]; omega
    have hcut := hp.1
    rw [Int.toNat_natCast, hlen] at hcut
    rw [show min xs.length n = n from by omega]
    have hs := Copy_calls A c (xs.take (n)) w (Kd.C_take hr (by omega)) (by rw [hlen]; omega)
    rw [hlen] at hs
    clear hp hi hsz hlen
    generalize xs.take n = ys at hs ⊢
    have HS := Aside0.mk hs
    clear hs hr
    go_enter Try.func29, Try.ntmps29
    go_wp2_with fail
    refine HS.out.mono ?_
    rintro e w1 ⟨v, rfl, hR, hB⟩
    have HO := Aside0.mk hR
    have HB := Aside0.mk hB
    clear hR hB HS
    obtain ⟨A1, c1, e1⟩ := Kd.R_slice HO.out
    subst e1
    go_wp2_with fail
    go_ret
    exact ⟨_, rfl, HO.out, HB.out⟩
def Bytes (xs : List Int) : Prop := ∀ x ∈ xs, 0 ≤ x ∧ x ≤ 255
theorem Bytes_take {xs : List Int} (h : Bytes xs) (n : Nat) : Bytes (xs.take n) := fun x hx => h x (List.mem_of_mem_take hx)
theorem Bytes_snoc {xs : List Int} (h : Bytes xs) {x : Int} (h0 : 0 ≤ x) (h1 : x ≤ 255) : Bytes (xs ++ [x]) := by
  intro y hy
  rcases List.mem_append.1 hy with hy | hy
  · exact h y hy
  · rw [List.mem_singleton.1 hy]; exact ⟨h0, h1⟩
theorem Bytes_rd {xs : List Int} (h : Bytes xs) (i : Nat) (hi : i < xs.length) : 0 ≤ rd xs (i : Int) ∧ rd xs (i : Int) ≤ 255 := by
  have : rd xs (i : Int) = xs[i] := by simp [rd, List.getD_eq_getElem?_getD, hi]
  rw [this]
  exact h _ (List.getElem_mem _)
set_option maxHeartbeats 4000000 in
set_option maxRecDepth 100000 in
theorem Text_calls (A0 A1 A2 : Option Addr) (c0 c1 c2 : Nat) (bs fs ns : List Int) (w : World) (hb : Bytes bs) (hr0 : Kd.C (Kd.int .u8) w A0 bs.length bs) (hc0 : bs.length ≤ c0) (hl0 : bs.length ≤ 140737488355328)
    (hr1 : Kd.C (Kd.int .i64) w A1 fs.length fs) (hr2 : Kd.C (Kd.int .i64) w A2 ns.length ns) :
    Calls Try.prog 14 #[.slice A0 bs.length c0, .slice A1 fs.length c1, .slice A2 ns.length c2] w fun e w' => ∃ (v : Value) (t : List Int), e = .returned v ∧ t.length ≤ 800 ∧ Bytes t ∧ Kd.R (Kd.int .u8) 5 w' w.heap.size (fun _ => True) v t ∧ Below w.heap.size w w' := by
  have HF := Aside0.mk hr1
  have HN := Aside0.mk hr2
  have HL := Aside0.mk (And.intro hr1.2.1 hr2.2.1)
  have HS := Aside0.mk (Cut_calls A0 c0 40 bs w hr0 hc0 hl0 (by decide))
  clear hr0 hr1 hr2 hc0 hl0
  go_enter Try.func14, Try.ntmps14
  go_wp2_with fail
  refine HS.out.mono ?_
  clear HS
  rintro e w1 ⟨v, rfl, hR, hB⟩
  have hlen : (bs.take (min bs.length 40)).length ≤ 40 := by rw [List.length_take]; omega
  have hby := Bytes_take hb (min bs.length 40)
  generalize bs.take (min bs.length 40) = out at *
  have HO := Aside0.mk hR
  have HB := Aside0.mk hB
  have HY := Aside0.mk hby
  clear hR hB hb hby
  go_wp2_with fail
  go_loopg [7, 8] 12 (fun g v7 v8 w' => ∃ (i : Nat) (out : List Int), v8 = .int .i64 (i : Int) ∧ Aside0 (i + g = 12 ∧ out.length ≤ 700 + i ∧ i ≤ fs.length ∧ i ≤ ns.length) ∧ Aside0 (Bytes out) ∧ Aside0 (Kd.R (Kd.int .u8) 5 w' w.heap.size (fun _ => True) v7 out) ∧ Aside0 (Below w.heap.size w w'))
  case atStart => exact ⟨0, out, rfl, ⟨by omega, by omega, by omega, by omega⟩, HY, HO, HB⟩
  case round =>
    clear HO HB HY hlen out
    obtain ⟨i, out, rfl, HG, HY, HO, HB⟩ := hrel
    obtain ⟨go, rfl⟩ : ∃ go : Nat, go = gk := ⟨_, rfl⟩
    obtain ⟨wo, rfl⟩ : ∃ wo : World, wo = wr := ⟨_, rfl⟩
    obtain ⟨q1, q2, q3, q4⟩ := HG.out
    obtain ⟨A7, c7, e7⟩ := Kd.R_slice HO.out
    subst e7
    by_cases hgo : i < fs.length ∧ i < ns.length ∧ i < 12 ∧ 0 < out.length
    · obtain ⟨g1, g2, g3, g4⟩ := hgo
      have d1 : decide ((i : Int) < (fs.length : Int)) = true := decide_eq_true (by omega)
      have d2 : decide ((i : Int) < (ns.length : Int)) = true := decide_eq_true (by omega)
      have d3 : decide ((i : Int) < 12) = true := decide_eq_true (by omega)
      have d4 : decide ((0 : Int) < (out.length : Int)) = true := decide_eq_true (by omega)
      have p1 : (i : Int) < (fs.length : Int) := by omega
      have p2 : (i : Int) < (ns.length : Int) := by omega
      obtain ⟨ad1, e1, hx1⟩ := Kd.at_int (Kd.C_below HF.out HB.out) (i : Int) (by omega) p1
      obtain ⟨ad2, e2, hx2⟩ := Kd.at_int (Kd.C_below HN.out HB.out) (i : Int) (by omega) p2
      rw [Int.toNat_natCast] at hx1 hx2
      subst e1 e2
      clear q1 q2 q3 q4
      have HG := Aside0.mk (show i + go = 12 ∧ out.length ≤ 700 + i ∧ i < fs.length ∧ i < ns.length from ⟨HG.out.1, HG.out.2.1, g1, g2⟩)
      clear g1 g2
      go_wp2_with fail
      refine (within_calls (rd fs (i : Int)) (out.length : Int) (by omega) (by have := HG.out; omega) _).mono ?_
      rintro e w3 ⟨r, hr0, hr1, _, rfl, k3, rfl⟩
      obtain ⟨at_, rfl⟩ := Int.eq_ofNat_of_zero_le hr0
      go_wp2_with fail
      refine (within_calls (rd ns (i : Int)) 60 (by omega) (by omega) _).mono ?_
      rintro e w4 ⟨r, hr2, hr3, _, rfl, k4, rfl⟩
      obtain ⟨kk, rfl⟩ := Int.eq_ofNat_of_zero_le hr2
      have HK := Aside0.mk (show at_ < out.length ∧ kk < 60 by omega)
      clear hx1 hx2 hr0 hr1 hr2 hr3 d4
      replace HB := Aside0.mk (by repeat (first | (with_reducible first | exact HB.out | apply below_alloc | apply pw_below_drewN | apply below_drew1) | exact HB.out))
      go_wp2_with fail
      go_loopg [7, 9, 10] kk (fun g v7 v9 v10 w' => ∃ (at_ k : Nat) (out : List Int), v9 = .int .i64 (at_ : Int) ∧ v10 = .int .i64 (k : Int) ∧ Aside0 (k ≤ g ∧ k ≤ 60 ∧ out.length ≤ 700 + i ∧ 0 < out.length ∧ at_ < out.length) ∧ Aside0 (Bytes out) ∧ Aside0 (Kd.R (Kd.int .u8) 5 w' w.heap.size (fun _ => True) v7 out) ∧ Aside0 (Below w.heap.size w w'))
      case atStart => exact ⟨at_, kk, out, rfl, rfl, ⟨by omega, by have := HK.out; omega, by have := HG.out; omega, by omega, HK.out.1⟩, HY, ⟨(by (with_reducible repeat (first | apply Kd.R_alloc | apply Kd.R_drewN | apply Kd.R_drew)); exact HO.out)⟩, ⟨(by repeat (first | (with_reducible first | exact HB.out | apply below_alloc | apply pw_below_drewN | apply below_drew1) | exact HB.out))⟩⟩
      case round =>
        clear HO HB HY HK g4
        obtain ⟨at_, k, out, rfl, rfl, HG2, HY, HO, HB⟩ := hrel
        obtain ⟨A7, c7, e7⟩ := Kd.R_slice HO.out
        subst e7
        by_cases hgo : 0 < k ∧ out.length < 700
        · obtain ⟨g1, g2⟩ := hgo
          have d1 : decide ((0 : Int) < (k : Int)) = true := decide_eq_true (by omega)
          have d2 : decide ((out.length : Int) < 700) = true := decide_eq_true (by omega)
          have p1 : (at_ : Int) < (out.length : Int) := by have := HG2.out; omega
          have hk60 : (k : Int) ≤ 100000000000 := by have := HG2.out; omega
          have hat : (at_ : Int) ≤ 1000 := by have := HG2.out; omega
          obtain ⟨ad3, e3, hx3⟩ := Kd.at_int (Kd.R_reads' HO.out).2.2 (at_ : Int) (by omega) p1
          have hb3 := Bytes_rd HY.out at_ (by omega)
          rw [Int.toNat_natCast] at hx3
          subst e3
          generalize hv : rd out (at_ : Int) = vb at hx3 hb3
          have HV := Aside0.mk hv
          clear hv
          go_wp2_with (at_builtin; refine Kd.R_append (Kd.int .u8) (w0 := w) w.heap.size rfl (.tmp 55) (.tmp 60) 23 5 (.int .u8 0) 1 rfl Try.underlying23 info5 rfl (by decide) (by decide) (.slice (some ad3) out.length c7) out (vb) [.int .u8 (vb)] (fun _ => True) (fun _ => False) rfl rfl ?aP (fun _ hk => hk.elim) ?aF ?aO ?aB ?aS ?aL ?_; (case aP => rfl); (case aB => exact (by repeat (first | (with_reducible first | exact HB.out | apply below_alloc | apply pw_below_drewN | apply below_drew1) | exact HB.out))); (case aF => exact (fun k_ hk => trivial)); (case aO => exact (by (with_reducible repeat (first | apply Kd.R_alloc | apply Kd.R_drewN | apply Kd.R_drew)); exact HO.out)); (case aS => exact (below_size (by repeat (first | (with_reducible first | exact HB.out | apply below_alloc | apply pw_below_drewN | apply below_drew1) | exact HB.out)))); (case aL => omega); intro v9 w9 ho hb hg hat; clear HO HB; have HO := Aside0.mk ho; have HB := Aside0.mk hb; clear ho hb hg hat)
          obtain ⟨g', rfl⟩ : ∃ g', gk = g' + 1 := ⟨gk - 1, by have := HG2.out; omega⟩
          go_roundg g'
          case measure => omega
          case rel =>
            have hg := HG2.out
            exact ⟨at_ + 1, k - 1, out ++ [vb], by go_num, congrArg (Value.int .i64) (by omega), ⟨by omega, by omega, by simp; omega, by simp, by simp; omega⟩, ⟨Bytes_snoc HY.out hb3.1 hb3.2⟩, HO, HB⟩
        · by_cases hk0 : k = 0
          · subst hk0
            have p2 : (i : Int) < (ns.length : Int) := by have := HG.out; omega
            obtain ⟨ad4, e4, hx4⟩ := Kd.at_int (Kd.C_below HN.out HB.out) (i : Int) (by omega) p2
            rw [Int.toNat_natCast] at hx4
            injection e4 with e4
            subst e4
            generalize hq : rd ns (i : Int) = q at hx4
            clear hq
            have hol : out.length ≤ 712 := by have := HG2.out; omega
            by_cases h5 : (Int.tmod q 5 == 0) = true
            · go_wp2_with (at_builtin; refine Kd.R_append (Kd.int .u8) (w0 := w) w.heap.size rfl (.tmp 70) (.tmp 76) 23 5 (.int .u8 0) 1 rfl Try.underlying23 info5 rfl (by decide) (by decide) (.slice A7 out.length c7) out (q % 256) [.int .u8 (q % 256)] (fun _ => True) (fun _ => False) rfl rfl ?aP (fun _ hk => hk.elim) ?aF ?aO ?aB ?aS ?aL ?_; (case aP => rfl); (case aB => exact (by repeat (first | (with_reducible first | exact HB.out | apply below_alloc | apply pw_below_drewN | apply below_drew1) | exact HB.out))); (case aF => exact (fun k_ hk => trivial)); (case aO => exact (by (with_reducible repeat (first | apply Kd.R_alloc | apply Kd.R_drewN | apply Kd.R_drew)); exact HO.out)); (case aS => exact (below_size (by repeat (first | (with_reducible first | exact HB.out | apply below_alloc | apply pw_below_drewN | apply below_drew1) | exact HB.out)))); (case aL => omega); intro v9 w9 ho hb hg hat; clear HO HB; have HO := Aside0.mk ho; have HB := Aside0.mk hb; clear ho hb hg hat)
              obtain ⟨g', rfl⟩ : ∃ g', go = g' + 1 := ⟨go - 1, by have := HG.out; omega⟩
              go_roundg g'
              case measure => omega
              case rel =>
                have hg := HG.out
                have hg2 := HG2.out
                exact ⟨i + 1, out ++ [q % 256], by go_num, ⟨by omega, by simp; omega, by omega, by omega⟩, ⟨Bytes_snoc HY.out (by omega) (by omega)⟩, HO, HB⟩
            · have h5' : (Int.tmod q 5 == 0) = false := by simpa using h5
              clear h5
              go_wp2_with fail
              obtain ⟨g', rfl⟩ : ∃ g', go = g' + 1 := ⟨go - 1, by have := HG.out; omega⟩
              go_roundg g'
              case measure => omega
              case rel =>
                have hg := HG.out
                have hg2 := HG2.out
                exact ⟨i + 1, out, by go_num, ⟨by omega, by omega, by omega, by omega⟩, HY, HO, HB⟩
          · have d1 : decide ((0 : Int) < (k : Int)) = true := decide_eq_true (by omega)
            have d2 : decide ((out.length : Int) < 700) = false := decide_eq_false (by omega)
            have hk60 : (k : Int) ≤ 100000000000 := by have := HG2.out; omega
            have p2 : (i : Int) < (ns.length : Int) := by have := HG.out; omega
            obtain ⟨ad4, e4, hx4⟩ := Kd.at_int (Kd.C_below HN.out HB.out) (i : Int) (by omega) p2
            rw [Int.toNat_natCast] at hx4
            injection e4 with e4
            subst e4
            generalize hq : rd ns (i : Int) = q at hx4
            clear hq
            have hol : out.length ≤ 712 := by have := HG2.out; omega
            by_cases h5 : (Int.tmod q 5 == 0) = true
            · go_wp2_with (at_builtin; refine Kd.R_append (Kd.int .u8) (w0 := w) w.heap.size rfl (.tmp 70) (.tmp 76) 23 5 (.int .u8 0) 1 rfl Try.underlying23 info5 rfl (by decide) (by decide) (.slice A7 out.length c7) out (q % 256) [.int .u8 (q % 256)] (fun _ => True) (fun _ => False) rfl rfl ?aP (fun _ hk => hk.elim) ?aF ?aO ?aB ?aS ?aL ?_; (case aP => rfl); (case aB => exact (by repeat (first | (with_reducible first | exact HB.out | apply below_alloc | apply pw_below_drewN | apply below_drew1) | exact HB.out))); (case aF => exact (fun k_ hk => trivial)); (case aO => exact (by (with_reducible repeat (first | apply Kd.R_alloc | apply Kd.R_drewN | apply Kd.R_drew)); exact HO.out)); (case aS => exact (below_size (by repeat (first | (with_reducible first | exact HB.out | apply below_alloc | apply pw_below_drewN | apply below_drew1) | exact HB.out)))); (case aL => omega); intro v9 w9 ho hb hg hat; clear HO HB; have HO := Aside0.mk ho; have HB := Aside0.mk hb; clear ho hb hg hat)
              obtain ⟨g', rfl⟩ : ∃ g', go = g' + 1 := ⟨go - 1, by have := HG.out; omega⟩
              go_roundg g'
              case measure => omega
              case rel =>
                have hg := HG.out
                have hg2 := HG2.out
                exact ⟨i + 1, out ++ [q % 256], by go_num, ⟨by omega, by simp; omega, by omega, by omega⟩, ⟨Bytes_snoc HY.out (by omega) (by omega)⟩, HO, HB⟩
            · have h5' : (Int.tmod q 5 == 0) = false := by simpa using h5
              clear h5
              go_wp2_with fail
              obtain ⟨g', rfl⟩ : ∃ g', go = g' + 1 := ⟨go - 1, by have := HG.out; omega⟩
              go_roundg g'
              case measure => omega
              case rel =>
                have hg := HG.out
                have hg2 := HG2.out
                exact ⟨i + 1, out, by go_num, ⟨by omega, by omega, by omega, by omega⟩, HY, HO, HB⟩
    · have hl := HL.out
      by_cases g1 : i < fs.length
      · have d1 : decide ((i : Int) < (fs.length : Int)) = true := decide_eq_true (by omega)
        by_cases g2 : i < ns.length
        · have d2 : decide ((i : Int) < (ns.length : Int)) = true := decide_eq_true (by omega)
          by_cases g3 : i < 12
          · have d3 : decide ((i : Int) < 12) = true := decide_eq_true (by omega)
            have d4 : decide ((0 : Int) < (out.length : Int)) = false := decide_eq_false (by omega)
            go_wp2_with fail
            go_ret
            exact ⟨_, out, rfl, by omega, HY.out, HO.out, HB.out⟩
          · have d3 : decide ((i : Int) < 12) = false := decide_eq_false (by omega)
            go_wp2_with fail
            go_ret
            exact ⟨_, out, rfl, by omega, HY.out, HO.out, HB.out⟩
        · have d2 : decide ((i : Int) < (ns.length : Int)) = false := decide_eq_false (by omega)
          go_wp2_with fail
          go_ret
          exact ⟨_, out, rfl, by omega, HY.out, HO.out, HB.out⟩
      · have d1 : decide ((i : Int) < (fs.length : Int)) = false := decide_eq_false (by omega)
        go_wp2_with fail
        go_ret
        exact ⟨_, out, rfl, by omega, HY.out, HO.out, HB.out⟩
end Go.Proofs.Ytfibhkfpnnpbpaa.PLzForms
