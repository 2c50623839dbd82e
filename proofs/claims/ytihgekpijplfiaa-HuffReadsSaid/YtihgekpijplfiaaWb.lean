/- bits.NewWriter and Writer.Bytes; Same of two rows of bytes that are alike is true; law02's wakes. -/
import Derived.Test.YtihgekpijplfiaaWr
import Derived.Test.YtihgekpijplfiaaKit
namespace Go.Proofs.Ytihgekpijplfiaa.Wr
open Go.RowKit Go.Proofs.YtihgekpijplfiaaW.PrintWords Go.Proofs.YtihgekpijplfiaaW.PrintLast Go.Proofs.YtihgekpijplfiaaW.PrintMore Go.Proofs.Ytihgekpijplfiaa.PBitsRead Go.Proofs.Ytihgekpijplfiaa.Pack Go.Proofs.Ytihgekpijplfiaa.Kit
set_option maxHeartbeats 8000000 in
set_option maxRecDepth 100000 in
theorem NewW_calls (w : World) :
    Calls Try.prog 37 #[] w fun e w' => ∃ g : Nat, e = .returned (.pointer (some ⟨g, 0, none⟩)) ∧ IsWr w.heap.size w' g [] ∧ Below w.heap.size w w' := by
  have hu99 := Try.underlying99
  have HBW := Aside0.mk (Below.refl w.heap.size w)
  go_enter Try.func37, Try.ntmps37
  go_wp2_with (first | ((with_reducible refine gate_dst (N := 2) rfl ?_); refine box_event ?hg (N := 2) ?hd (cs := #[.slice none 0 0, .int .i64 0]) (t := 99) ?hr ?_; (case hd => rfl); (case hg => rfl); (case hr => first | (go_simp; done) | (go_simp; rfl)); intro gb101 hg w1 hbox hb; have n0_ := Aside0.mk (below_step HBW.out hb); have n2_ := Aside0.mk (hbox); have n3_ := Aside0.mk ((by rw [hg]; exact (below_size (by repeat (first | (with_reducible first | exact HBW.out | apply below_alloc | apply pw_below_drewN | apply below_drew1) | exact HBW.out))) : w.heap.size ≤ gb101)); clear HBW; have HBW := n0_; have BK101 := n2_; have GW101 := n3_; clear n0_ n2_ n3_; clear hb hbox hg))
  go_ret
  refine ⟨_, rfl, ⟨⟨.slice none 0 0, ?_, GW101.out, Kd.R_nil _ _ _ _ _⟩, fun d hd => (List.not_mem_nil hd).elim, by simp⟩, ?_⟩
  · (with_reducible repeat (first | refine blk_drewN ?_ _ | refine blk_drew ?_ | refine blk_alloc ?_ _)); exact BK101.out
  · repeat (first | (with_reducible first | exact HBW.out | apply below_alloc | apply pw_below_drewN | apply below_drew1 | refine below_set ?_ GW101.out) | exact HBW.out)
theorem R_none {α : Type} {d : Kd α} {e base : Nat} {ok : Nat → Prop} {w : World} {n c : Nat} {xs : List α} (h : d.R e w base ok (.slice none n c) xs) : xs = [] ∧ c = 0 := by
  obtain ⟨_, inner, ⟨_, h1 | ⟨g, cap, cur, h2, _⟩⟩, _⟩ := h
  · obtain ⟨h2, h3⟩ := h1
    injection h2 with h4 h5 h6
    exact ⟨List.eq_nil_of_length_eq_zero h3, h6⟩
  · injection h2 with h4
    cases h4
set_option maxHeartbeats 1000000 in
theorem Bytes_calls (base g : Nat) (ds : List Int) (w : World) (hI : IsWr base w g ds) :
    Calls Try.prog 40 #[.pointer (some ⟨g, 0, none⟩)] w fun e w' => ∃ A c, e = .returned (.slice A (packB ds).length c) ∧ Kd.R (Kd.int .u8) 5 w' w.heap.size (fun _ => True) (.slice A (packB ds).length c) (packB ds) ∧ Below w.heap.size w w' := by
  obtain ⟨⟨v, hb, hg, hR⟩, h01, hle⟩ := hI
  obtain ⟨A, c, ev⟩ := Kd.R_slice hR
  subst ev
  have hpl := packB_length ds
  have x0 : w.cell? ⟨g, 0, none⟩ = some (.slice A (packB ds).length c) := (blk_cell hb 0).trans rfl
  have HR := Aside0.mk hR
  have HC := Aside0.mk (Clone_calls A c (packB ds) w (Kd.R_reads' hR).2.2 (fun e => by subst e; exact R_none hR) (by omega))
  clear hR hb hpl
  go_enter Try.func40, Try.ntmps40
  go_wp2_with fail
  refine HC.out.mono ?_
  rintro e w1 ⟨v, rfl, h1, h2⟩
  obtain ⟨A1, c1, e1⟩ := Kd.R_slice h1
  subst e1
  go_wp2_with fail
  go_ret
  exact ⟨_, _, rfl, h1, h2⟩
theorem sameb_ev0 (xs : List Int) (hl : xs.length ≤ 9223372036854775807) : ∀ d i : Nat, i + d = xs.length → Ev (fun k => florilegiumkeep_Same_byte.l0 k xs xs (i : Int)) true
  | 0, i, h => by
    refine Ev.step (f := fun _ => some true) (fun k => ?_) (Ev.now _)
    simp only [florilegiumkeep_Same_byte.l0]
    rw [if_neg (by omega)]
  | d + 1, i, h => by
    refine Ev.step (fun k => ?_) (sameb_ev0 xs hl d (i + 1) (by omega))
    have hw : wrap64 ((i : Int) + 1) = ((i + 1 : Nat) : Int) := by unfold wrap64; omega
    simp only [florilegiumkeep_Same_byte.l0]
    rw [if_pos (by omega), if_pos (by omega), if_pos (by omega), if_pos trivial, hw]
theorem sameb_ev (xs : List Int) (hl : xs.length ≤ 9223372036854775807) : Ev (fun k => florilegiumkeep_Same_byte.f k xs xs) true := by
  refine Ev.congr (fun k => ?_) (sameb_ev0 xs hl xs.length 0 (by omega))
  simp only [florilegiumkeep_Same_byte.f]
  rw [if_pos trivial]
  rfl
theorem SameB_calls (A B : Option Addr) (ca cb : Nat) (xs : List Int) (w : World) (ha : Kd.C (Kd.int .u8) w A xs.length xs) (hca : xs.length ≤ ca) (hb : Kd.C (Kd.int .u8) w B xs.length xs) (hcb : xs.length ≤ cb) :
    Calls Try.prog 47 #[.slice A xs.length ca, .slice B xs.length cb] w fun e w' => e = .returned (.bool true) ∧ Drawn0 w w' := by
  obtain ⟨k, hk⟩ := (sameb_ev xs ha.2.1).rounds
  exact florilegiumkeep_Same_byte.calls k A ca xs B cb xs true w ha hca hb hcb hk
theorem pack51 : packB ([] ++ lowD 5 3 ++ lowD 1 1) = [13] := by kernel_rfl
set_option maxHeartbeats 8000000 in
set_option maxRecDepth 100000 in
theorem wakes_calls (w : World) : Calls Try.prog 29 #[] w fun e w' => e = .returned (.bool true) ∧ Below w.heap.size w w' := by
  go_enter Try.func29, Try.ntmps29
  go_wp2_with fail
  refine (NewW_calls _).mono ?_
  rintro e w1 ⟨g, rfl, hw, hb⟩
  go_wp2_with fail
  refine (Put_calls _ g [] 5 3 (by decide) (by decide) (by decide) (by decide) w1 hw).mono ?_
  rintro e w2 ⟨rfl, hw2, hs2⟩
  have hb2 := hw.1.below hs2 hb
  go_wp2_with fail
  refine (Put_calls _ g _ 1 1 (by decide) (by decide) (by decide) (by decide) w2 hw2).mono ?_
  rintro e w3 ⟨rfl, hw3, hs3⟩
  have hb3 := hw2.1.below hs3 hb2
  go_wp2_with fail
  refine (Bytes_calls _ g _ w3 hw3).mono ?_
  rintro e w4 ⟨A, c, rfl, hr, hb4⟩
  rw [pack51] at hr ⊢
  have hb5 := below_step hb3 hb4
  go_wp2_with fail
  have hc := C_row (Kd.int .u8) (fun x => [.int .u8 x]) (fun _ _ => rfl) w4 5 (0, 0) [13] (by decide)
  have h2 := Kd.R_reads' hr
  refine (SameB_calls A _ c 1 [13] _ (Kd.C_alloc h2.2.2 _) h2.2.1 hc (by decide)).mono ?_
  rintro e w6 ⟨rfl, n, rfl⟩
  go_wp2_with fail
  go_ret
  exact ⟨rfl, pw_below_drewN (below_alloc hb5 _) _⟩
end Go.Proofs.Ytihgekpijplfiaa.Wr
