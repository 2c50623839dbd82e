/- florilegiumlaw04.LzJoins returns true, whatever int and byte it is given, and leaves what was in memory. No condition. -/
import Derived.Test.YtfibhkfpnnpbpaaSame
import Derived.Test.YtfibhkfpnnpbpaaCode
import Derived.Test.YtfibhkfpnnpbpaaWakes
namespace Go.Proofs.Ytfibhkfpnnpbpaa.PLzForms
open Go.RowKit Go.Proofs.YtfibhkfpnnpbpaaW.PrintWords Go.Proofs.YtfibhkfpnnpbpaaW.PrintLast Go.Proofs.YtfibhkfpnnpbpaaW.PrintMore
open Go.Proofs.Ytfibhkfpnnpbpaa.Kit Go.Proofs.Ytfibhkfpnnpbpaa.Codes
attribute [local go_sem] max2_int min2_int max_two min_two max_three min_three max_four min_four
set_option linter.unusedVariables false
def cellsOf27 (x : S27) : List Value := [.int .u8 x.f0, .int .i64 x.f1, .int .i64 x.f2]
def J4 (c d : Int) : List S27 := [⟨c, 0, 0⟩, ⟨d, 0, 0⟩, ⟨0, 5, 2⟩, ⟨0, 1, 1⟩]
def B8 (c d : Int) : List Int := [c, d, c, d, c, d, c, c]
theorem join4 (c d : Int) : joinS [] (J4 c d) = some (B8 c d) := by kernel_rfl
def jl (r c : Int) : List (List S27) := [[⟨0, 1 + r, 1⟩], [⟨c, 0, 0⟩, ⟨0, 3, 1 + (1 + r)⟩], [⟨c, 0, 0⟩, ⟨0, 258 + (1 + r), 1⟩], [⟨c, 0, 0⟩, ⟨0, -(1 + r), 0⟩], [⟨c, 0, 0⟩, ⟨0, 3, 0⟩], [⟨c, 0, 0⟩, ⟨0, 3, -(1 + r)⟩]]
theorem jl_none (r c : Int) (h0 : 0 ≤ r) (h1 : r < 200) : ∀ l ∈ jl r c, joinS [] l = none := by
  intro l hl
  simp only [jl, List.mem_cons, List.not_mem_nil, or_false] at hl
  rcases hl with rfl | rfl | rfl | rfl | rfl | rfl
  all_goals (simp [joinS, stepOk, stepS]; try omega)
theorem cpy_const (c : Int) : ∀ (n m : Nat), 1 ≤ m → cpy (List.replicate m c) 1 n = List.replicate (m + n) c
  | 0, m, _ => rfl
  | n + 1, m, h => by
    simp only [cpy]
    have hr : rd (List.replicate m c) (((List.replicate m c).length : Int) - ((1 : Nat) : Int)) = c := by
      rw [List.length_replicate, show ((m : Int) - ((1 : Nat) : Int)) = ((m - 1 : Nat) : Int) from by omega, rd_get _ _ (by simp; omega)]
      simp
    rw [hr, ← List.replicate_succ', cpy_const c n (m + 1) (by omega)]
    congr 1
    omega
theorem join_many (c : Int) (tl : List S27) : ∀ (j m : Nat), 1 ≤ m → m + 255 * j ≤ 65536 → joinS (List.replicate m c) (List.replicate j (⟨0, 255, 1⟩ : S27) ++ tl) = joinS (List.replicate (m + 255 * j) c) tl
  | 0, m, _, _ => by simp
  | j + 1, m, h, h2 => by
    rw [List.replicate_succ, List.cons_append]
    simp only [joinS]
    have hs : stepS (List.replicate m c) (⟨0, 255, 1⟩ : S27) = List.replicate (m + 255) c := by
      unfold stepS
      rw [if_neg (by show ¬ (255 : Int) = 0; decide)]
      exact cpy_const c 255 m h
    rw [if_pos (by simp [stepOk]; omega), hs, join_many c tl j (m + 255) (by omega) (by omega), show m + 255 + 255 * j = m + 255 * (j + 1) from by omega]
def full (c : Int) : List Int := List.replicate 65536 c
theorem join_first (c : Int) (tl : List S27) : joinS [] (⟨c, 0, 0⟩ :: tl) = joinS (List.replicate 1 c) tl := by
  simp only [joinS]
  rw [if_pos (by rfl)]
  rfl
theorem join_most (c : Int) : joinS [] (⟨c, 0, 0⟩ :: List.replicate 257 (⟨0, 255, 1⟩ : S27)) = some (full c) := by
  have := join_many c [] 257 1 (by omega) (by omega)
  rw [List.append_nil] at this
  rw [join_first, this]
  rfl
theorem join_over (c : Int) : joinS [] (⟨c, 0, 0⟩ :: List.replicate 257 (⟨0, 255, 1⟩ : S27) ++ [⟨c, 0, 0⟩]) = none := by
  have := join_many c [⟨c, 0, 0⟩] 257 1 (by omega) (by omega)
  rw [List.cons_append, join_first, this]
  simp only [joinS]
  rw [List.length_replicate, show stepOk (1 + 255 * 257) (⟨c, 0, 0⟩ : S27) = false from by rfl, if_neg (by simp)]
/-- Six short rows of steps, and the row of them. -/
def sl (g n : Nat) : Value := .slice (some ⟨g, 0, none⟩) n n
def jW (w : World) (r c : Int) : World := ((jl r c).foldl (fun w l => w.alloc (.cells (l.flatMap cellsOf27).toArray 27)) w).alloc (.cells #[sl w.heap.size 1, sl (w.heap.size + 1) 2, sl (w.heap.size + 2) 2, sl (w.heap.size + 3) 2, sl (w.heap.size + 4) 2, sl (w.heap.size + 5) 2] 24)
def Facts (w : World) (B : Nat) (r c : Int) : Prop := ∀ i : Nat, i < 6 → ∃ l, l ∈ jl r c ∧ l.length ≤ 2 ∧ w.cell? ⟨B + 6, i, none⟩ = some (sl (B + i) l.length) ∧ Kd.C k27 w (some ⟨B + i, 0, none⟩) l.length l
theorem Facts_below {w w1 : World} {B : Nat} {r c : Int} (h : Facts w B r c) (hb : Below w.heap.size w w1) : Facts w1 B r c := by
  intro i hi
  obtain ⟨l, h1, h2, h3, h4⟩ := h i hi
  exact ⟨l, h1, h2, pw_cell_below hb h3, Kd.C_below h4 hb⟩
theorem facts_start (w : World) (r c : Int) : Facts (jW w r c) w.heap.size r c := by
  have hf : ∀ w x, k27.K w x (cellsOf27 x) := fun _ _ => k27_mk _ _
  have hs : ∀ (w : World) (o : Obj), (w.alloc o).heap.size = w.heap.size + 1 := fun w o => by show (w.heap.push o).size = _; rw [Array.size_push]
  let w1 := w.alloc (.cells (([⟨0, 1 + r, 1⟩] : List S27).flatMap cellsOf27).toArray 27)
  let w2 := w1.alloc (.cells (([⟨c, 0, 0⟩, ⟨0, 3, 1 + (1 + r)⟩] : List S27).flatMap cellsOf27).toArray 27)
  let w3 := w2.alloc (.cells (([⟨c, 0, 0⟩, ⟨0, 258 + (1 + r), 1⟩] : List S27).flatMap cellsOf27).toArray 27)
  let w4 := w3.alloc (.cells (([⟨c, 0, 0⟩, ⟨0, -(1 + r), 0⟩] : List S27).flatMap cellsOf27).toArray 27)
  let w5 := w4.alloc (.cells (([⟨c, 0, 0⟩, ⟨0, 3, 0⟩] : List S27).flatMap cellsOf27).toArray 27)
  let w6 := w5.alloc (.cells (([⟨c, 0, 0⟩, ⟨0, 3, -(1 + r)⟩] : List S27).flatMap cellsOf27).toArray 27)
  have s1 : w1.heap.size = w.heap.size + 1 := hs _ _
  have s2 : w2.heap.size = w.heap.size + 2 := by rw [hs, s1]
  have s3 : w3.heap.size = w.heap.size + 3 := by rw [hs, s2]
  have s4 : w4.heap.size = w.heap.size + 4 := by rw [hs, s3]
  have s5 : w5.heap.size = w.heap.size + 5 := by rw [hs, s4]
  have s6 : w6.heap.size = w.heap.size + 6 := by rw [hs, s5]
  have c1 := C_row k27 cellsOf27 hf w 27 (0, 0) [⟨0, 1 + r, 1⟩] (by simp)
  have c2 := C_row k27 cellsOf27 hf w1 27 (0, 0) [⟨c, 0, 0⟩, ⟨0, 3, 1 + (1 + r)⟩] (by simp)
  have c3 := C_row k27 cellsOf27 hf w2 27 (0, 0) [⟨c, 0, 0⟩, ⟨0, 258 + (1 + r), 1⟩] (by simp)
  have c4 := C_row k27 cellsOf27 hf w3 27 (0, 0) [⟨c, 0, 0⟩, ⟨0, -(1 + r), 0⟩] (by simp)
  have c5 := C_row k27 cellsOf27 hf w4 27 (0, 0) [⟨c, 0, 0⟩, ⟨0, 3, 0⟩] (by simp)
  have c6 := C_row k27 cellsOf27 hf w5 27 (0, 0) [⟨c, 0, 0⟩, ⟨0, 3, -(1 + r)⟩] (by simp)
  rw [s1] at c2
  rw [s2] at c3
  rw [s3] at c4
  rw [s4] at c5
  rw [s5] at c6
  have hcell : ∀ i : Nat, (jW w r c).cell? ⟨w.heap.size + 6, i, none⟩ = (#[sl w.heap.size 1, sl (w.heap.size + 1) 2, sl (w.heap.size + 2) 2, sl (w.heap.size + 3) 2, sl (w.heap.size + 4) 2, sl (w.heap.size + 5) 2] : Array Value)[i]? := by
    intro i
    have hb : (jW w r c).heap[w6.heap.size]? = some (.cells #[sl w.heap.size 1, sl (w.heap.size + 1) 2, sl (w.heap.size + 2) 2, sl (w.heap.size + 3) 2, sl (w.heap.size + 4) 2, sl (w.heap.size + 5) 2] 24) := heap_alloc_new w6 _
    rw [s6] at hb
    simp only [World.cell?, hb]
    simp
  intro i hi
  have h6 : i = 0 ∨ i = 1 ∨ i = 2 ∨ i = 3 ∨ i = 4 ∨ i = 5 := by omega
  rcases h6 with rfl | rfl | rfl | rfl | rfl | rfl
  · exact ⟨[⟨0, 1 + r, 1⟩], by simp [jl], by simp, by rw [hcell]; rfl, Kd.C_alloc (Kd.C_alloc (Kd.C_alloc (Kd.C_alloc (Kd.C_alloc (Kd.C_alloc c1 _) _) _) _) _) _⟩
  · exact ⟨[⟨c, 0, 0⟩, ⟨0, 3, 1 + (1 + r)⟩], by simp [jl], by simp, by rw [hcell]; rfl, Kd.C_alloc (Kd.C_alloc (Kd.C_alloc (Kd.C_alloc (Kd.C_alloc c2 _) _) _) _) _⟩
  · exact ⟨[⟨c, 0, 0⟩, ⟨0, 258 + (1 + r), 1⟩], by simp [jl], by simp, by rw [hcell]; rfl, Kd.C_alloc (Kd.C_alloc (Kd.C_alloc (Kd.C_alloc c3 _) _) _) _⟩
  · exact ⟨[⟨c, 0, 0⟩, ⟨0, -(1 + r), 0⟩], by simp [jl], by simp, by rw [hcell]; rfl, Kd.C_alloc (Kd.C_alloc (Kd.C_alloc c4 _) _) _⟩
  · exact ⟨[⟨c, 0, 0⟩, ⟨0, 3, 0⟩], by simp [jl], by simp, by rw [hcell]; rfl, Kd.C_alloc (Kd.C_alloc c5 _) _⟩
  · exact ⟨[⟨c, 0, 0⟩, ⟨0, 3, -(1 + r)⟩], by simp [jl], by simp, by rw [hcell]; rfl, Kd.C_alloc c6 _⟩
set_option maxHeartbeats 8000000 in
set_option maxRecDepth 100000 in
theorem LzJoins_calls (a0 c : Int) (hc0 : 0 ≤ c) (hc1 : c ≤ 255) (w : World) : Calls Try.prog 4 #[.int .i64 a0, .int .u8 c] w fun e w' => e = .returned (.bool true) ∧ Below w.heap.size w w' := by
  have hu27 := Try.underlying27
  go_enter Try.func4, Try.ntmps4
  go_wp2_with fail
  refine (within_calls a0 200 (by omega) (by omega) _).mono ?_
  rintro e w1 ⟨r, hr0, hr1, _, rfl, k1, rfl⟩
  have HB := Aside0.mk (pw_below_drewN (Below.refl w.heap.size w) k1)
  generalize w.drewN k1 = w1 at HB ⊢
  go_wp2_with fail
  have hc4 := C_row k27 cellsOf27 (fun _ _ => k27_mk _ _) w1 27 (0, 0) (J4 c ((c + 1) % 256)) (by simp [J4])
  have HS := Aside0.mk (Join_calls _ 4 _ _ hc4 (by simp [J4]))
  rw [join4] at HS
  refine HS.out.mono ?_
  clear HS hc4
  rintro e w2 ⟨v2, rfl, hR, hB⟩
  have HO := Aside0.mk (show Kd.R (Kd.int .u8) 5 w2 (w1.alloc _).heap.size (fun _ => True) v2 (B8 c ((c + 1) % 256)) from hR)
  replace HB := Aside0.mk (below_step (by repeat (first | (with_reducible first | exact HB.out | apply below_alloc | apply pw_below_drewN | apply below_drew1) | exact HB.out)) hB)
  clear hR hB
  obtain ⟨A2, c2, e2⟩ := Kd.R_slice HO.out
  replace e2 : v2 = .slice A2 8 c2 := e2
  subst e2
  have hr2 := Kd.R_reads' HO.out
  have hc8 := C_row (Kd.int .u8) (fun x => [.int .u8 x]) (fun _ _ => rfl) w2 5 (0, 0) (B8 c ((c + 1) % 256)) (by simp [B8])
  have HS := Aside0.mk ((SameB_calls A2 _ c2 8 _ _ (Kd.C_alloc hr2.2.2 _) hr2.2.1 hc8 (by simp [B8])).mono (R' := fun e w' => e = .returned (.bool true) ∧ Below w.heap.size w w') (fun e w' h => ⟨h.1, by obtain ⟨n, hn⟩ := h.2.out; rw [hn]; exact pw_below_drewN (below_alloc HB.out _) n⟩))
  clear hr2 hc8 HO HB
  go_wp2_with fail
  refine HS.out.mono ?_
  clear HS
  rintro e w3 ⟨rfl, hB⟩
  have HB := Aside0.mk hB
  clear hB
  go_wp2_with fail
  have FS := Aside0.mk (facts_start w3 r c)
  have HB2 : Aside0 (Below w.heap.size w (jW w3 r c)) := Aside0.mk (below_alloc (below_alloc (below_alloc (below_alloc (below_alloc (below_alloc (below_alloc HB.out _) _) _) _) _) _) _)
  clear HB
  go_loopg [4, 84] 6 (fun g v4 v84 w' => ∃ i : Nat, v4 = .bool false ∧ v84 = .int .i64 (i : Int) ∧ Aside0 (i + g = 6) ∧ Aside0 (Facts w' w3.heap.size r c) ∧ Aside0 (Below w.heap.size w w'))
  case atStart => exact ⟨0, rfl, rfl, ⟨rfl⟩, FS, HB2⟩
  case round =>
    clear FS HB2
    obtain ⟨i, rfl, rfl, HG, FS, HB⟩ := hrel
    by_cases hi : i < 6
    · obtain ⟨l, hl1, hl2, hl3, hl4⟩ := FS.out i hi
      have hl5 := jl_none r c hr0 hr1 l hl1
      have hlc : wr.cell? ⟨w3.heap.size + 1 + 1 + 1 + 1 + 1 + 1, i, none⟩ = some (.slice (some ⟨w3.heap.size + i, 0, none⟩) l.length l.length) := hl3
      have HS := Aside0.mk (Join_calls (some ⟨w3.heap.size + i, 0, none⟩) l.length l wr hl4 (Nat.le_refl _))
      rw [hl5] at HS
      clear hl1 hl2 hl3 hl4 hl5
      generalize l.length = n at HS hlc
      have hi2 : (i : Int) < 6 := by omega
      go_wp2_with fail
      refine HS.out.mono ?_
      clear HS
      rintro e w5 ⟨v5, rfl, hR, hB⟩
      obtain ⟨A5, c5, e5⟩ := Kd.R_slice hR
      replace e5 : v5 = .slice A5 0 c5 := e5
      subst e5
      replace FS := Aside0.mk (Facts_below FS.out hB)
      replace HB := Aside0.mk (below_step HB.out hB)
      clear hR hB
      have hb5 : (finJ none).2 = false := rfl
      go_wp2_with fail
      obtain ⟨g', rfl⟩ : ∃ g', gk = g' + 1 := ⟨gk - 1, by have := HG.out; omega⟩
      go_roundg g'
      case measure => omega
      case rel => exact ⟨i + 1, rfl, by go_num, ⟨by have := HG.out; omega⟩, FS, HB⟩
    · obtain rfl : i = 6 := by have := HG.out; omega
      clear HG FS
      go_wp2_with ((with_reducible refine gate_dst (N := 102) rfl ?_); (try (refine gate_guard (by rfl) ?_; dsimp only)); refine Kd.R_lit k27 _ 27 ?hg (N := 102) ?hd (xs := ([(⟨c, 0, 0⟩ : S27)] : List (S27))) (inner := [.int .u8 c, .int .i64 0, .int .i64 0]) (ok := fun _ => True) (okp := fun _ => True) ?hr ?hp (fun _ hk => hk) trivial (Below.refl _ _) (Nat.le_refl _) (by simp) ?_; (case hd => rfl); (case hg => rfl); (case hr => first | (go_simp; done) | (go_simp; rfl)); (case hp => exact (Reps.c3 (show Kd.M k27 _ _ _ (⟨c, 0, 0⟩ : S27) [.int .u8 c, .int .i64 0, .int .i64 0] from (k27_mkM _ _ _ (⟨c, 0, 0⟩ : S27) )) (Reps.none _ _))); intro v8 w4 ho hb hg_ hnew_; clear hg_ hnew_; have n1 := Aside0.mk (Kd.R_lower ho (below_size (by repeat (first | (with_reducible first | exact HB.out | apply below_alloc | apply pw_below_drewN | apply below_drew1) | exact HB.out)))); replace HB := Aside0.mk (below_step (by repeat (first | (with_reducible first | exact HB.out | apply below_alloc | apply pw_below_drewN | apply below_drew1) | exact HB.out)) hb); clear hb ho; have HW := n1; clear n1)
      go_loopg [11, 12] 257 (fun g v11 v12 w' => ∃ (i : Nat), v12 = .int .i64 (i : Int) ∧ Aside0 (i + g = 257) ∧ Aside0 (Kd.R k27 27 w' w.heap.size (fun _ => True) v11 (⟨c, 0, 0⟩ :: List.replicate i (⟨0, 255, 1⟩ : S27))) ∧ Aside0 (Below w.heap.size w w'))
      case atStart => exact ⟨0, rfl, ⟨rfl⟩, HW, HB⟩
      case round =>
        clear HW HB
        obtain ⟨i, rfl, HG, HW, HB⟩ := hrel
        by_cases hi : i < 257
        · have hi2 : (i : Int) < 257 := by omega
          go_wp2_with (at_builtin; refine Kd.R_append k27 (w0 := w) w.heap.size rfl (.tmp 107) (.tmp 109) 24 27 (.agg #[(.int .u8 0), (.int .i64 0), (.int .i64 0)]) 24 rfl Try.underlying24 info27 rfl (by decide) (by omega) u11 (⟨c, 0, 0⟩ :: List.replicate i (⟨0, 255, 1⟩ : S27)) (⟨0, 255, 1⟩ : S27) [.int .u8 0, .int .i64 255, .int .i64 1] (fun _ => True) (fun _ => False) rfl rfl ?aP (fun _ hk => hk.elim) ?aF ?aO ?aB ?aS ?aL ?_; (case aP => exact k27_mkM _ _ _ (⟨0, 255, 1⟩ : S27)); (case aB => exact (by repeat (first | (with_reducible first | exact HB.out | apply below_alloc | apply pw_below_drewN | apply below_drew1) | exact HB.out))); (case aF => exact (fun k_ hk => trivial)); (case aO => exact HW.out); (case aS => exact (below_size (by repeat (first | (with_reducible first | exact HB.out | apply below_alloc | apply pw_below_drewN | apply below_drew1) | exact HB.out)))); (case aL => simp; omega); intro v9 w9 ho hb hg hat; clear HW HB; have HW := Aside0.mk ho; have HB := Aside0.mk hb; clear ho hb hg hat)
          obtain ⟨g', rfl⟩ : ∃ g', gk = g' + 1 := ⟨gk - 1, by have := HG.out; omega⟩
          go_roundg g'
          case measure => omega
          case rel =>
            refine ⟨i + 1, by go_num, ⟨by have := HG.out; omega⟩, ⟨?_⟩, HB⟩
            rw [List.replicate_succ']
            exact HW.out
        · obtain rfl : i = 257 := by have := HG.out; omega
          clear HG
          obtain ⟨A6, c6, e6⟩ := Kd.R_slice HW.out
          replace e6 : u11 = .slice A6 258 c6 := e6
          subst e6
          have hj := Join_calls A6 c6 _ wr (Kd.R_reads' HW.out).2.2 (Kd.R_reads' HW.out).2.1
          rw [join_most] at hj
          have HS := Aside0.mk hj
          clear hj
          go_wp2_with fail
          refine HS.out.mono ?_
          clear HS
          rintro e w6 ⟨v6, rfl, hR, hB⟩
          obtain ⟨A7, c7, e7⟩ := Kd.R_slice hR
          have hfl : (finJ (some (full c))).1.length = 65536 := by show (List.replicate 65536 c).length = _; rw [List.length_replicate]
          rw [hfl] at e7
          subst e7
          clear hfl
          have HW2 := Aside0.mk (Kd.R_below HW.out hB)
          replace HB := Aside0.mk (below_step HB.out hB)
          clear hR hB HW
          have hb6 : (finJ (some (full c))).2 = true := rfl
          have hb7 : (finJ none).2 = false := rfl
          go_wp2_with (at_builtin; refine Kd.R_append k27 (w0 := w) w.heap.size rfl (.tmp 117) (.tmp 120) 24 27 (.agg #[(.int .u8 0), (.int .i64 0), (.int .i64 0)]) 24 rfl Try.underlying24 info27 rfl (by decide) (by omega) (.slice A6 258 c6) (⟨c, 0, 0⟩ :: List.replicate 257 (⟨0, 255, 1⟩ : S27)) (⟨c, 0, 0⟩ : S27) [.int .u8 c, .int .i64 0, .int .i64 0] (fun _ => True) (fun _ => False) rfl rfl ?aP (fun _ hk => hk.elim) ?aF ?aO ?aB ?aS ?aL ?_; (case aP => exact k27_mkM _ _ _ (⟨c, 0, 0⟩ : S27)); (case aB => exact HB.out); (case aF => exact (fun k_ hk => trivial)); (case aO => exact HW2.out); (case aS => exact (below_size HB.out)); (case aL => simp); intro v9 w9 ho hb hg hat; clear HW2 HB; have HW := Aside0.mk ho; have HB := Aside0.mk hb; clear ho hb hg hat)
          obtain ⟨A8, c8, e8⟩ := Kd.R_slice HW.out
          subst e8
          have hj := Join_calls A8 c8 _ w9 (Kd.R_reads' HW.out).2.2 (Kd.R_reads' HW.out).2.1
          rw [join_over] at hj
          refine hj.mono ?_
          clear hj HW
          rintro e w10 ⟨v10, rfl, hR, hB⟩
          obtain ⟨A9, c9, e9⟩ := Kd.R_slice hR
          replace e9 : v10 = .slice A9 0 c9 := e9
          subst e9
          replace HB := Aside0.mk (below_step HB.out hB)
          clear hR hB
          go_wp2_with fail
          refine (wakes_calls _).mono ?_
          rintro e w71 ⟨rfl, hB⟩
          replace HB := Aside0.mk (below_step HB.out hB)
          clear hB
          go_wp2_with fail
          go_ret
          exact ⟨rfl, HB.out⟩
theorem u8_rangeJ {c : Int} (h : (Lit.int .u8 c).wf = true) : 0 ≤ c ∧ c ≤ 255 := by
  simp [Lit.wf, IntKind.min, IntKind.max, IntKind.signed, IntKind.bits] at h
  exact ⟨by omega, by omega⟩
theorem LzJoins_walk (a0 c : Int) (_ : (Lit.int .i64 a0).wf = true) (h : (Lit.int .u8 c).wf = true) (w : World) : Calls Try.prog 4 #[.int .i64 a0, .int .u8 c] w fun e w' => e = .returned (.bool true) ∧ Below w.heap.size w w' :=
  LzJoins_calls a0 c (u8_rangeJ h).1 (u8_rangeJ h).2 w
end Go.Proofs.Ytfibhkfpnnpbpaa.PLzForms
