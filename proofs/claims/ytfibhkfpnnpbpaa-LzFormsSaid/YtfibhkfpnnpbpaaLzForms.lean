/- florilegiumlaw04.LzForms returns true, whatever int and byte it is given, and leaves what was in memory. No condition. -/
import Derived.Test.YtfibhkfpnnpbpaaSame
import Derived.Test.YtfibhkfpnnpbpaaCode
import Derived.Test.YtfibhkfpnnpbpaaWakes
import Derived.Lib.AppendZerosOnto
import Derived.Lib.AppendZeros
namespace Go.Proofs.Ytfibhkfpnnpbpaa.PLzForms
open Go.RowKit Go.Proofs.YtfibhkfpnnpbpaaW.PrintWords Go.Proofs.YtfibhkfpnnpbpaaW.PrintLast Go.Proofs.YtfibhkfpnnpbpaaW.PrintMore
open Go.Proofs.Ytfibhkfpnnpbpaa.Kit Go.Proofs.Ytfibhkfpnnpbpaa.Codes

attribute [local go_sem] max2_int min2_int max_two min_two max_three min_three max_four min_four
set_option linter.unusedVariables false
theorem zero_cells (k : Nat) : (Builtin.zeroCells (Value.int .u8 0).cells k).toList = List.replicate k (Value.int .u8 0) := by
  apply List.ext_getElem
  · simp [Builtin.zeroCells, Value.cells]
  · intro i h1 h2
    simp [Builtin.zeroCells, Value.cells, Nat.mod_one]
theorem qrs_zeros (w : World) (k : Nat) (h0 : 0 < k) (h1 : 3 < k) (h2 : k ≤ 3000) : ∃ v' w', (Builtin.append_ #[23, 3] 23 #[.slice (some ⟨w.heap.size, 0, none⟩) 3 3, .int .i64 (k : Int)]).run Try.prog (w.alloc (.cells #[.int .u8 113, .int .u8 114, .int .u8 115] 5 (3, 4))) = .ok v' w' ∧
    Kd.R (Kd.int .u8) 5 w' w.heap.size (fun _ => True) v' ([113, 114, 115] ++ List.replicate k 0) ∧ Below w.heap.size w w' := by
  obtain ⟨i0, hi, hz, hsz, hby⟩ := info_parts info5
  let W := w.alloc (.cells #[.int .u8 113, .int .u8 114, .int .u8 115] 5 (3, 4))
  have hb : W.heap[w.heap.size]? = some (.cells #[.int .u8 113, .int .u8 114, .int .u8 115] 5 (3, 4)) := heap_alloc_new w _
  have hfc := run_firstCells_some (P := Try.prog) W.drew i0.size 3 ⟨w.heap.size, 0, none⟩ 3 3 [.int .u8 113, .int .u8 114, .int .u8 115] (by rw [hsz]; rfl) (by
    intro j u hu
    rw [add_plain]
    show W.cell? _ = _
    simp only [World.cell?, hb]
    simpa using hu)
  have hr := Lib.run_append_grow_zeros (P := Try.prog) W 23 3 23 5 i0 (.int .u8 0) .i64 .i64 Try.underlying23 Try.underlying3 hi hz (some ⟨w.heap.size, 0, none⟩) 3 3 [.int .u8 113, .int .u8 114, .int .u8 115] hfc k h0 (by omega) (by omega) (by omega) (by rw [hby]; omega) (by
    unfold Builtin.nextslicecap
    rw [if_pos (by omega), hby]; omega)
  refine ⟨_, _, hr, ?_, ?_⟩
  · have hcap : 3 + k ≤ grownCap W (3 + k) 3 5 ∧ grownCap W (3 + k) 3 5 ≤ maxLen := by
      unfold grownCap Question.cut maxLen
      have := Nat.mod_lt (W.tape W.drawn (.appendCap (3 + k) 3 5)) (show 0 < 2 ^ 63 - (3 + k) by omega)
      simp only
      omega
    generalize grownCap W (3 + k) 3 5 = cap at hcap
    refine Kd.R_of_own (h1 := fun _ => rfl) ?_ (fun _ _ => trivial)
    refine ⟨by simp [encs], .inr ⟨W.heap.size, cap, _, by simp; omega, ?_, heap_alloc_new W.drew _, by simp; omega, hcap.2, ?_, ?_⟩⟩
    · show w.heap.size ≤ W.heap.size
      exact (below_alloc (Below.refl _ _) _).size
    · simp [Builtin.zeroCells, Value.cells]; omega
    · simp only [Array.toList_append, zero_cells, encs]
      simp
  · exact below_alloc (below_drew (below_alloc (Below.refl w.heap.size w) _)) _
def T17 : List Int := [97, 98, 99, 100, 88, 97, 98, 99, 89, 97, 98, 99, 100, 90, 97, 98, 99]
def L6 : List S27 := [⟨88, 0, 0⟩, ⟨0, 3, 5⟩, ⟨89, 0, 0⟩, ⟨0, 4, 9⟩, ⟨90, 0, 0⟩, ⟨0, 3, 5⟩]
def L10 : List S27 := [⟨97, 0, 0⟩, ⟨98, 0, 0⟩, ⟨99, 0, 0⟩, ⟨100, 0, 0⟩, ⟨88, 0, 0⟩, ⟨0, 3, 5⟩, ⟨89, 0, 0⟩, ⟨0, 4, 9⟩, ⟨90, 0, 0⟩, ⟨0, 3, 5⟩]
theorem sp17 : lz_Split.f 60 T17 = some L10 := by kernel_rfl
theorem cut_named (A : Option Addr) (c : Nat) : ∃ (A' : Option Addr) (c' : Nat), (∀ W : World, (Instr.slice 24 (.slice A 10 c) (some (.int .i64 4)) none none).run Try.prog W = .ok (.slice A' 6 c') W) ∧ A' = (if c = 4 then A else A.map (·.add (4 * 3))) ∧ c' = c - 4 := by
  obtain ⟨i0, hi, _, hsz, _⟩ := info_parts info27
  have h := cut_from (P := Try.prog) 24 27 .i64 Try.underlying24 hi 3 hsz A 10 c 4 (by decide) (by decide)
  exact ⟨_, _, h, rfl, rfl⟩
set_option maxHeartbeats 8000000 in
set_option maxRecDepth 100000 in
theorem LzForms_calls (a0 c : Int) (hc0 : 0 ≤ c) (hc1 : c ≤ 255) (w : World) : Calls Try.prog 3 #[.int .i64 a0, .int .u8 c] w fun e w' => e = .returned (.bool true) ∧ Below w.heap.size w w' := by
  have hu27 := Try.underlying27
  have kc := fun (w : World) (C : Array Value) (n c : Nat) => Lib.run_convert_bytes_const (P := Try.prog) w 23 5 C n c Try.underlying23 Try.underlying5
  go_enter Try.func3, Try.ntmps3
  go_wp2_with fail
  refine (within_calls a0 300 (by omega) (by omega) _).mono ?_
  rintro e w1 ⟨n, hn0, hn1, _, rfl, k1, rfl⟩
  obtain ⟨m, rfl⟩ := Int.eq_ofNat_of_zero_le hn0
  have HB := Aside0.mk (Below.refl w.heap.size w)
  go_wp2_with ((with_reducible refine gate_dst (N := 20) rfl ?_); refine Kd.R_make (Kd.int .u8) _ 5 rfl (N := 20) rfl 23 _ _ rfl (4 + (m : Int)) rfl rfl Try.underlying23 (.int .u8 0) 1 info5 rfl (by decide) (by omega) 0 (ok := fun _ => True) (okp := fun _ => True) rfl (fun _ hk => hk) trivial (by omega) (by omega) (Below.refl _ _) (Nat.le_refl _) ?_; intro v w2 ho hb hg_ hnew_; clear hg_ hnew_; have HO := Aside0.mk (Kd.R_lower ho (below_size (by repeat (first | (with_reducible first | exact HB.out | apply below_alloc | apply pw_below_drewN | apply below_drew1) | exact HB.out)))); replace HB := Aside0.mk (below_step (by repeat (first | (with_reducible first | exact HB.out | apply below_alloc | apply pw_below_drewN | apply below_drew1) | exact HB.out)) hb); clear hb ho; obtain ⟨Ao, co, eo⟩ := Kd.R_slice HO.out; subst eo)
  have hlen : ∀ i : Nat, i ≤ 4 + m → (List.replicate i c ++ List.replicate (4 + m - i) 0).length = 4 + m := by intro i hi; simp; omega
  have HL := Aside0.mk hlen
  clear hlen
  go_loopg [23] (4 + m) (fun g v23 w' => ∃ i : Nat, v23 = .int .i64 (i : Int) ∧ Aside0 (i + g = 4 + m) ∧ Aside0 (Kd.R (Kd.int .u8) 5 w' w.heap.size (fun _ => True) (.slice Ao (4 + m) co) (List.replicate i c ++ List.replicate (4 + m - i) 0)) ∧ Aside0 (Below w.heap.size w w'))
  case atStart =>
    refine ⟨0, rfl, ⟨by omega⟩, ⟨?_⟩, HB⟩
    have := HO.out
    simpa [show (4 + (m : Int)).toNat = 4 + m from by omega] using this
  case round =>
    clear HO HB
    obtain ⟨i, rfl, HG, HO, HB⟩ := hrel
    by_cases hi : i < 4 + m
    · have p13 : 0 ≤ (i : Int) := by omega
      have q13 : (i : Int) < ((4 + m : Nat) : Int) := by omega
      have hl := HL.out i (by omega)
      obtain ⟨g0, c0, e0, gb, gl, cl, hcl⟩ := Kd.R_form HO.out (by omega)
      injection e0 with e1 e2 e3
      subst e1
      clear e2 e3
      have hcf := Kd.R_celln 0 HO.out (i : Int) p13 q13
      have hput := Kd.R_putg HO.out (i : Int) c
      rw [Int.toNat_natCast] at hcf hput
      obtain ⟨hx, hf⟩ := hcf
      have HP := Aside0.mk hput
      have GB := Aside0.mk gb
      clear gb gl hcl hl hput
      have p14 : (i : Int) < 4 + (m : Int) := by omega
      go_wp2_with ((with_reducible refine gate_store (t := 5) (p := 29) rfl ?_); refine store_event (t := 5) (p := 29) (v := .tmp 28) (w1 := (wr.setCell ⟨g0, i, none⟩ (.int .u8 c))) ?hg ?ho ?hn ?hr ?_; (case ho => rfl); (case hg => rfl); (case hn => rfl); (case hr => first | (go_simp; done) | (go_simp; rfl)); intro w15 hw; have HW := Aside0.mk hw; clear hw)
      obtain ⟨g', rfl⟩ : ∃ g', gk = g' + 1 := ⟨gk - 1, by have := HG.out; omega⟩
      go_roundg g'
      case measure => omega
      case rel =>
        refine ⟨i + 1, by go_num, ⟨by have := HG.out; omega⟩, ⟨?_⟩, ⟨?_⟩⟩
        · rw [HW.out]
          have := HP.out.1
          rw [show 4 + m - i = (4 + m - (i + 1)) + 1 from by omega, fill_set] at this
          exact this
        · rw [HW.out]
          exact below_set HB.out GB.out
    · obtain rfl : i = 4 + m := by have := HG.out; omega
      clear HG HL
      have p14 : ¬ ((4 + m : Nat) : Int) < 4 + (m : Int) := by omega
      have hO : Kd.R (Kd.int .u8) 5 wr w.heap.size (fun _ => True) (.slice Ao (List.replicate (m + 3 + 1) c).length co) (List.replicate (m + 3 + 1) c) := by
        have := HO.out
        simpa [show 4 + m = m + 3 + 1 from by omega] using this
      replace HO := Aside0.mk hO
      clear hO
      have hS := Split_calls Ao co (List.replicate (m + 3 + 1) c) (by simp; omega) wr (Kd.R_reads' HO.out).2.2 (Kd.R_reads' HO.out).2.1
      rw [split_const, List.length_replicate, show m + 3 + 1 = 4 + m from by omega] at hS
      have HS := Aside0.mk hS
      clear hS HO
      go_wp2_with fail
      refine HS.out.mono ?_
      clear HS
      rintro e w3 ⟨v, rfl, hR, hB⟩
      have HO := Aside0.mk (Kd.R_lower hR (below_size HB.out))
      replace HB := Aside0.mk (below_step HB.out hB)
      clear hR hB p14
      go_wp2_with ((with_reducible refine gate_dst (N := 35) rfl ?_); (try (refine gate_guard (by rfl) ?_; dsimp only)); refine Kd.R_lit k27 _ 27 ?hg (N := 35) ?hd (xs := ([(⟨c, 0, 0⟩ : S27)] : List (S27))) (inner := [.int .u8 c, .int .i64 0, .int .i64 0]) (ok := fun _ => True) (okp := fun _ => True) ?hr ?hp (fun _ hk => hk) trivial (Below.refl _ _) (Nat.le_refl _) (by simp) ?_; (case hd => rfl); (case hg => rfl); (case hr => first | (go_simp; done) | (go_simp; rfl)); (case hp => exact (Reps.c3 (show Kd.M k27 _ _ _ (⟨c, 0, 0⟩ : S27) [.int .u8 c, .int .i64 0, .int .i64 0] from (k27_mkM _ _ _ (⟨c, 0, 0⟩ : S27) )) (Reps.none _ _))); intro v8 w4 ho hb hg_ hnew_; clear hg_ hnew_; have n0 := Aside0.mk (Kd.R_elder' (by (with_reducible repeat (first | apply Kd.R_alloc | apply Kd.R_drewN | apply Kd.R_drew)); exact HO.out) (Kd.R_base ho) hb); have n1 := Aside0.mk (Kd.R_lower (Kd.R_new' ho (Kd.R_lt (by (with_reducible repeat (first | apply Kd.R_alloc | apply Kd.R_drewN | apply Kd.R_drew)); exact HO.out))) (below_size (by repeat (first | (with_reducible first | exact HB.out | apply below_alloc | apply pw_below_drewN | apply below_drew1) | exact HB.out)))); replace HB := Aside0.mk (below_step (by repeat (first | (with_reducible first | exact HB.out | apply below_alloc | apply pw_below_drewN | apply below_drew1) | exact HB.out)) hb); clear hb ho; clear HO; have HO := n0; have HW := n1; clear n0 n1)
      go_loopg [8, 9] (3 + m) (fun g v8 v9 w' => ∃ (left : Nat) (done : List S27), v9 = .int .i64 (left : Int) ∧ Aside0 (left ≤ g ∧ left ≤ 3 + m ∧ done.length + left ≤ 3 + m ∧ done ++ want c left = want c (m + 3)) ∧ Aside0 (Kd.R k27 27 w' w.heap.size (fun k_ => some k_ ≠ (v8 : Value).ownBlock) v (⟨c, 0, 0⟩ :: want c (m + 3))) ∧ Aside0 (Kd.R k27 27 w' w.heap.size (fun k_ => some k_ ≠ (v : Value).ownBlock) v8 (⟨c, 0, 0⟩ :: done)) ∧ Aside0 (Below w.heap.size w w'))
      case atStart =>
        refine ⟨3 + m, [], by go_num, ⟨Nat.le_refl _, Nat.le_refl _, by simp, by rw [List.nil_append, Nat.add_comm]⟩, ⟨Kd.R_mono HO.out (fun _ hk => hk.2)⟩, ⟨Kd.R_mono HW.out (fun _ hk => hk.2)⟩, HB⟩
      case round =>
        clear HO HW HB
        obtain ⟨left, done, rfl, HG, HO, HW, HB⟩ := hrel
        by_cases h0 : left = 0
        · subst h0
          obtain ⟨q1, q2, q3, q4⟩ := HG.out
          rw [want_zero, List.append_nil] at q4
          subst q4
          clear HG q1 q2 q3
          generalize (⟨c, 0, 0⟩ :: want c (m + 3) : List S27) = L at HO HW
          obtain ⟨A1, c1, e1⟩ := Kd.R_slice HO.out
          obtain ⟨A2, c2, e2⟩ := Kd.R_slice HW.out
          subst e1
          subst e2
          have hr1 := Kd.R_reads' HO.out
          have hr2 := Kd.R_reads' HW.out
          have HS := Aside0.mk (Same_calls A1 A2 c1 c2 L wr hr1.2.2 hr1.2.1 hr2.2.2 hr2.2.1)
          clear hr1 hr2 HO HW
          go_wp2_with fail
          refine HS.out.mono ?_
          clear HS
          rintro e w5 ⟨rfl, k5, rfl⟩
          replace HB := Aside0.mk (pw_below_drewN HB.out k5)
          generalize wr.drewN k5 = w5 at HB ⊢
          go_wp2_with fail
          have hc := C_row (Kd.int .u8) (fun x => [.int .u8 x]) (fun _ _ => rfl) w5 5 (17, 18) T17 (by decide)
          have HS := Aside0.mk (lz_Split.calls 60 _ 17 T17 L10 _ hc (by decide) sp17)
          clear hc
          refine HS.out.mono ?_
          clear HS
          rintro e w6 ⟨v2, rfl, hR, hB⟩
          have HO := Aside0.mk hR
          replace HB := Aside0.mk (below_step (by repeat (first | (with_reducible first | exact HB.out | apply below_alloc | apply pw_below_drewN | apply below_drew1) | exact HB.out)) hB)
          clear hR hB
          obtain ⟨A3, c3, e3⟩ := Kd.R_slice HO.out
          replace e3 : v2 = .slice A3 10 c3 := e3
          subst e3
          obtain ⟨A4, c4, hcut, hA4, hc4⟩ := cut_named A3 c3
          have HA4 := Aside0.mk (And.intro hA4 hc4)
          clear hA4 hc4
          have hr3 := Kd.R_reads' HO.out
          have HC := Aside0.mk (show Kd.C k27 w6 A4 6 L6 from by
            have h := Kd.C_drop (m := 4) (c := c3) hr3.2.2 (by decide) hr3.2.1
            rw [HA4.out.1]
            exact h)
          have HC4 := Aside0.mk (show 6 ≤ c4 from by have h1 : 10 ≤ c3 := hr3.2.1; have h2 := HA4.out.2; omega)
          clear hr3 HA4 HO
          go_wp2_with fail
          have hc6 := C_row k27 (fun x => [.int .u8 x.f0, .int .i64 x.f1, .int .i64 x.f2]) (fun _ _ => k27_mk _ _) w6 27 (0, 0) L6 (by decide)
          have HS := Aside0.mk ((Same_calls A4 _ c4 6 L6 _ (Kd.C_alloc HC.out _) HC4.out hc6 (by decide)).mono (R' := fun e w' => e = .returned (.bool true) ∧ Below w.heap.size w w') (fun e w' h => ⟨h.1, by obtain ⟨n, hn⟩ := h.2.out; rw [hn]; exact pw_below_drewN (below_alloc HB.out _) n⟩))
          clear hc6 HC HC4 hcut HB
          refine HS.out.mono ?_
          clear HS
          rintro e w7 ⟨rfl, hB⟩
          have HB := Aside0.mk hB
          clear hB
          obtain ⟨k, hk⟩ := Int.eq_ofNat_of_zero_le (show 0 ≤ 1021 + (m : Int) % 2 by omega)
          have hk1 : 1021 ≤ k := by omega
          have hk2 : k ≤ 1022 := by omega
          obtain ⟨v4, w8, hrun, hR, hB⟩ := qrs_zeros w7 k (by omega) (by omega) (by omega)
          rw [← hk] at hrun
          have HX := Aside0.mk (And.intro hR hB)
          have HRUN := Aside0.mk hrun
          clear hR hB hrun hk
          go_wp2_with (at_builtin; refine Lib.wpList_append_run _ rfl (.tmp 83) (.tmp 86) 23 3 rfl _ _ rfl rfl _ _ HRUN.out ?_)
          have HO := Aside0.mk (Kd.R_lower HX.out.1 (below_size HB.out))
          replace HB := Aside0.mk (below_step HB.out HX.out.2)
          clear HX HRUN kc
          generalize hxs : ([113, 114, 115] ++ List.replicate k 0 : List Int) = xs at HO
          have hxl : xs.length = 3 + k := by rw [← hxs]; simp; omega
          have HXL := Aside0.mk hxl
          clear hxs
          obtain ⟨Ab, cb, eb⟩ := Kd.R_slice HO.out
          rw [hxl] at eb
          subst eb
          clear hxl
          go_loopg [13] (3 + k) (fun g v13 w' => ∃ (i : Nat) (xs : List Int), v13 = .int .i64 (i : Int) ∧ Aside0 (i + g = 3 + k + 3 ∧ i ≤ 3 + k) ∧ Aside0 (xs.length = 3 + k) ∧ Aside0 (Kd.R (Kd.int .u8) 5 w' w.heap.size (fun _ => True) (.slice Ab (3 + k) cb) xs) ∧ Aside0 (Below w.heap.size w w'))
          case atStart => exact ⟨3, xs, rfl, ⟨by omega, by omega⟩, HXL, HO, HB⟩
          case round =>
            clear HO HB HXL xs
            obtain ⟨i, xs, rfl, HG, HXL, HO, HB⟩ := hrel
            by_cases hi : i < 3 + k
            · have q13 : (i : Int) < ((3 + k : Nat) : Int) := by omega
              obtain ⟨g0, c0, e0, gb, gl, cl, hcl⟩ := Kd.R_form HO.out (by have := HXL.out; omega)
              injection e0 with e1 e2 e3
              subst e1
              clear e2 e3
              have hcf := Kd.R_celln 0 HO.out (i : Int) (by omega) q13
              have hput := fun x => Kd.R_putg HO.out (i : Int) x
              rw [Int.toNat_natCast] at hcf
              simp only [Int.toNat_natCast] at hput
              obtain ⟨hx, hf⟩ := hcf
              have HP := Aside0.mk hput
              have GB := Aside0.mk gb
              clear gb gl hcl hput
              have q14 : (i : Int) < 3 + (k : Int) := by omega
              go_wp2_with fail
              obtain ⟨g', rfl⟩ : ∃ g', gk = g' + 1 := ⟨gk - 1, by have := HG.out; omega⟩
              go_roundg g'
              case measure => omega
              case rel =>
                exact ⟨i + 1, xs.set i _, by go_num, ⟨by have := HG.out; omega, by omega⟩, ⟨by rw [List.length_set]; exact HXL.out⟩, ⟨(HP.out _).1⟩, ⟨below_set HB.out GB.out⟩⟩
            · obtain rfl : i = 3 + k := by have := HG.out; omega
              clear HG
              have q14 : ¬ ((3 + k : Nat) : Int) < 3 + (k : Int) := by omega
              go_wp2_with (at_builtin; refine print_append_str (w0 := w) w.heap.size rfl (.tmp 105) _ 23 9 5 rfl Try.underlying23 Try.underlying9 info5 (.slice Ab (3 + k) cb) xs (⟨#[113, 114, 115]⟩ : ByteArray) rfl rfl ?aO ?aB ?aS ?aL ?_; (case aB => exact HB.out); (case aO => exact (Kd.own_of_R HO.out)); (case aS => exact (below_size HB.out)); (case aL => show xs.length + 3 ≤ _; have := HXL.out; omega); intro v177 w67 ho0 hb hg; have ho := Kd.R_of_own (h1 := fun _ => rfl) (ok := fun _ => True) ho0 (fun _ _ => trivial); have HO2 := Aside0.mk (show Kd.R (Kd.int .u8) 5 w67 w.heap.size (fun _ => True) v177 (xs ++ bytesOf (⟨#[113, 114, 115]⟩ : ByteArray)) from ho); clear HB; have HB := Aside0.mk hb; clear ho0 ho hg hb)
              have hyl : (xs ++ bytesOf (⟨#[113, 114, 115]⟩ : ByteArray)).length = 6 + k := by
                rw [List.length_append, bytesOf_length]
                have := HXL.out
                show xs.length + 3 = _
                omega
              generalize (xs ++ bytesOf (⟨#[113, 114, 115]⟩ : ByteArray) : List Int) = ys at HO2 hyl
              obtain ⟨A5, c5, e5⟩ := Kd.R_slice HO2.out
              subst e5
              have HS := Aside0.mk (Split_calls A5 c5 ys (by omega) w67 (Kd.R_reads' HO2.out).2.2 (Kd.R_reads' HO2.out).2.1)
              have HYL := Aside0.mk hyl
              clear hyl HO HXL
              refine HS.out.mono ?_
              clear HS
              rintro e w68 ⟨v6, rfl, hR, hB⟩
              have HO6 := Aside0.mk hR
              have HY := Aside0.mk (Kd.R_below HO2.out hB)
              replace HB := Aside0.mk (below_step HB.out hB)
              clear hR hB HO2
              obtain ⟨A6, c6, e6⟩ := Kd.R_slice HO6.out
              subst e6
              have HS := Aside0.mk (Join_calls A6 c6 _ w68 (Kd.R_reads' HO6.out).2.2 (Kd.R_reads' HO6.out).2.1)
              rw [split_join ys (by have := HYL.out; omega)] at HS
              clear HO6
              go_wp2_with fail
              refine HS.out.mono ?_
              clear HS
              rintro e w69 ⟨v7, rfl, hR, hB⟩
              have HO7 := Aside0.mk (show Kd.R (Kd.int .u8) 5 w69 w68.heap.size (fun _ => True) v7 ys from hR)
              replace HY := Aside0.mk (Kd.R_below HY.out hB)
              replace HB := Aside0.mk (below_step HB.out hB)
              clear hR hB
              obtain ⟨A7, c7, e7⟩ := Kd.R_slice HO7.out
              subst e7
              have HS := Aside0.mk (SameB_calls A7 A5 c7 c5 ys w69 (Kd.R_reads' HO7.out).2.2 (Kd.R_reads' HO7.out).2.1 (Kd.R_reads' HY.out).2.2 (Kd.R_reads' HY.out).2.1)
              clear HO7 HY
              go_wp2_with fail
              refine HS.out.mono ?_
              clear HS
              rintro e w70 ⟨rfl, k9, rfl⟩
              replace HB := Aside0.mk (pw_below_drewN HB.out k9)
              go_wp2_with fail
              refine (wakes_calls _).mono ?_
              rintro e w71 ⟨rfl, hB⟩
              replace HB := Aside0.mk (below_step HB.out hB)
              clear hB
              go_wp2_with fail
              go_ret
              exact ⟨rfl, HB.out⟩
        · have hl3 : left ≤ 302 := by have := HG.out; omega
          have hl1 : 1 ≤ left := by omega
          by_cases hs : min left 258 < 3
          · have hmn : (left : Int) ≤ 258 := by omega
            have hs3 : (left : Int) < 3 := by omega
            have hp1 : (0 : Int) < (left : Int) := by omega
            go_wp2_with (at_builtin; refine Kd.R_append k27 (w0 := w) w.heap.size rfl (.tmp 44) (.tmp 47) 24 27 (.agg #[(.int .u8 0), (.int .i64 0), (.int .i64 0)]) 24 rfl Try.underlying24 info27 rfl (by decide) (by omega) u8 (⟨c, 0, 0⟩ :: done) (⟨c, 0, 0⟩ : S27) [.int .u8 c, .int .i64 0, .int .i64 0] (fun k_ => some k_ ≠ (v : Value).ownBlock) (fun _ => False) rfl rfl ?aP (fun _ hk => hk.elim) ?aF ?aO ?aB ?aS ?aL ?_; (case aP => exact k27_mkM _ _ _ (⟨c, 0, 0⟩ : S27)); (case aB => exact (by repeat (first | (with_reducible first | exact HB.out | apply below_alloc | apply pw_below_drewN | apply below_drew1) | exact HB.out))); (case aF => exact (fun k_ hk => Kd.fresh' (Kd.R_lt (by (with_reducible repeat (first | apply Kd.R_alloc | apply Kd.R_drewN | apply Kd.R_drew)); exact HO.out)) k_ hk)); (case aO => exact (by (with_reducible repeat (first | apply Kd.R_alloc | apply Kd.R_drewN | apply Kd.R_drew)); exact HW.out)); (case aS => exact (below_size (by repeat (first | (with_reducible first | exact HB.out | apply below_alloc | apply pw_below_drewN | apply below_drew1) | exact HB.out)))); (case aL => have := HG.out; simp; omega); intro v9 w9 ho hb hg hat; have n0 := Aside0.mk (Kd.R_after (ok := (fun _ => True)) (by (with_reducible repeat (first | apply Kd.R_alloc | apply Kd.R_drewN | apply Kd.R_drew)); exact Kd.R_mono HO.out (fun _ hk => ⟨trivial, hk⟩)) hg hat); have n1 := Aside0.mk ho; clear HO HW HB; have HO := n0; have HW := n1; have HB := Aside0.mk hb; clear n0 n1 ho hb hg hat)
            obtain ⟨g', rfl⟩ : ∃ g', gk = g' + 1 := ⟨gk - 1, by have := HG.out; omega⟩
            go_roundg g'
            case measure => omega
            case rel =>
              obtain ⟨q1, q2, q3, q4⟩ := HG.out
              refine ⟨left - 1, done ++ [⟨c, 0, 0⟩], congrArg (Value.int .i64) (by omega), ⟨⟨by omega, by omega, by simp; omega, ?_⟩⟩, ⟨Kd.R_mono HO.out (fun _ hk => hk.2)⟩, ⟨?_⟩, HB⟩
              · rw [← q4, want_small c left h0 hs]
                simp
              · simpa using HW.out
          · by_cases hle : left ≤ 258
            · have hmn : (left : Int) ≤ 258 := by omega
              have hs3 : (3 : Int) ≤ (left : Int) := by omega
              have hp1 : (0 : Int) < (left : Int) := by omega
              go_wp2_with (at_builtin; refine Kd.R_append k27 (w0 := w) w.heap.size rfl (.tmp 51) (.tmp 54) 24 27 (.agg #[(.int .u8 0), (.int .i64 0), (.int .i64 0)]) 24 rfl Try.underlying24 info27 rfl (by decide) (by omega) u8 (⟨c, 0, 0⟩ :: done) (⟨0, (left : Int), 1⟩ : S27) [.int .u8 0, .int .i64 (left : Int), .int .i64 1] (fun k_ => some k_ ≠ (v : Value).ownBlock) (fun _ => False) rfl rfl ?aP (fun _ hk => hk.elim) ?aF ?aO ?aB ?aS ?aL ?_; (case aP => exact k27_mkM _ _ _ (⟨0, (left : Int), 1⟩ : S27)); (case aB => exact (by repeat (first | (with_reducible first | exact HB.out | apply below_alloc | apply pw_below_drewN | apply below_drew1) | exact HB.out))); (case aF => exact (fun k_ hk => Kd.fresh' (Kd.R_lt (by (with_reducible repeat (first | apply Kd.R_alloc | apply Kd.R_drewN | apply Kd.R_drew)); exact HO.out)) k_ hk)); (case aO => exact (by (with_reducible repeat (first | apply Kd.R_alloc | apply Kd.R_drewN | apply Kd.R_drew)); exact HW.out)); (case aS => exact (below_size (by repeat (first | (with_reducible first | exact HB.out | apply below_alloc | apply pw_below_drewN | apply below_drew1) | exact HB.out)))); (case aL => have := HG.out; simp; omega); intro v9 w9 ho hb hg hat; have n0 := Aside0.mk (Kd.R_after (ok := (fun _ => True)) (by (with_reducible repeat (first | apply Kd.R_alloc | apply Kd.R_drewN | apply Kd.R_drew)); exact Kd.R_mono HO.out (fun _ hk => ⟨trivial, hk⟩)) hg hat); have n1 := Aside0.mk ho; clear HO HW HB; have HO := n0; have HW := n1; have HB := Aside0.mk hb; clear n0 n1 ho hb hg hat)
              obtain ⟨g', rfl⟩ : ∃ g', gk = g' + 1 := ⟨gk - 1, by have := HG.out; omega⟩
              go_roundg g'
              case measure => omega
              case rel =>
                obtain ⟨q1, q2, q3, q4⟩ := HG.out
                refine ⟨left - left, done ++ [⟨0, (left : Int), 1⟩], congrArg (Value.int .i64) (by omega), ⟨⟨by omega, by omega, by simp; omega, ?_⟩⟩, ⟨Kd.R_mono HO.out (fun _ hk => hk.2)⟩, ⟨?_⟩, HB⟩
                · rw [← q4, want_big c left hs, show min left 258 = left from by omega]
                  simp
                · simpa using HW.out
            · have hmn : (258 : Int) < (left : Int) := by omega
              have hp1 : (0 : Int) < (left : Int) := by omega
              go_wp2_with (at_builtin; refine Kd.R_append k27 (w0 := w) w.heap.size rfl (.tmp 51) (.tmp 54) 24 27 (.agg #[(.int .u8 0), (.int .i64 0), (.int .i64 0)]) 24 rfl Try.underlying24 info27 rfl (by decide) (by omega) u8 (⟨c, 0, 0⟩ :: done) (⟨0, 258, 1⟩ : S27) [.int .u8 0, .int .i64 258, .int .i64 1] (fun k_ => some k_ ≠ (v : Value).ownBlock) (fun _ => False) rfl rfl ?aP (fun _ hk => hk.elim) ?aF ?aO ?aB ?aS ?aL ?_; (case aP => exact k27_mkM _ _ _ (⟨0, 258, 1⟩ : S27)); (case aB => exact (by repeat (first | (with_reducible first | exact HB.out | apply below_alloc | apply pw_below_drewN | apply below_drew1) | exact HB.out))); (case aF => exact (fun k_ hk => Kd.fresh' (Kd.R_lt (by (with_reducible repeat (first | apply Kd.R_alloc | apply Kd.R_drewN | apply Kd.R_drew)); exact HO.out)) k_ hk)); (case aO => exact (by (with_reducible repeat (first | apply Kd.R_alloc | apply Kd.R_drewN | apply Kd.R_drew)); exact HW.out)); (case aS => exact (below_size (by repeat (first | (with_reducible first | exact HB.out | apply below_alloc | apply pw_below_drewN | apply below_drew1) | exact HB.out)))); (case aL => have := HG.out; simp; omega); intro v9 w9 ho hb hg hat; have n0 := Aside0.mk (Kd.R_after (ok := (fun _ => True)) (by (with_reducible repeat (first | apply Kd.R_alloc | apply Kd.R_drewN | apply Kd.R_drew)); exact Kd.R_mono HO.out (fun _ hk => ⟨trivial, hk⟩)) hg hat); have n1 := Aside0.mk ho; clear HO HW HB; have HO := n0; have HW := n1; have HB := Aside0.mk hb; clear n0 n1 ho hb hg hat)
              obtain ⟨g', rfl⟩ : ∃ g', gk = g' + 1 := ⟨gk - 1, by have := HG.out; omega⟩
              go_roundg g'
              case measure => omega
              case rel =>
                obtain ⟨q1, q2, q3, q4⟩ := HG.out
                refine ⟨left - 258, done ++ [⟨0, 258, 1⟩], congrArg (Value.int .i64) (by omega), ⟨⟨by omega, by omega, by simp; omega, ?_⟩⟩, ⟨Kd.R_mono HO.out (fun _ hk => hk.2)⟩, ⟨?_⟩, HB⟩
                · rw [← q4, want_big c left hs, show min left 258 = 258 from by omega]
                  simp
                · simpa using HW.out
theorem u8_range {c : Int} (h : (Lit.int .u8 c).wf = true) : 0 ≤ c ∧ c ≤ 255 := by
  simp [Lit.wf, IntKind.min, IntKind.max, IntKind.signed, IntKind.bits] at h
  exact ⟨by omega, by omega⟩
theorem LzForms_walk (a0 c : Int) (_ : (Lit.int .i64 a0).wf = true) (h : (Lit.int .u8 c).wf = true) (w : World) : Calls Try.prog 3 #[.int .i64 a0, .int .u8 c] w fun e w' => e = .returned (.bool true) ∧ Below w.heap.size w w' :=
  LzForms_calls a0 c (u8_range h).1 (u8_range h).2 w
end Go.Proofs.Ytfibhkfpnnpbpaa.PLzForms
