/- florilegiumlaw03's wakes, and HuffForms. Conditions: the argument is an int of 64 digits. -/
import Derived.Test.YtihgekpijplfiaaHc
namespace Go.Proofs.Ytihgekpijplfiaa.Hn
set_option linter.unusedVariables false
open Go.RowKit Go.Maps Go.Proofs.YtihgekpijplfiaaW.PrintWords Go.Proofs.YtihgekpijplfiaaW.PrintLast Go.Proofs.YtihgekpijplfiaaW.PrintMore Go.Proofs.Ytihgekpijplfiaa.Hp Go.Proofs.Ytihgekpijplfiaa.Rm Go.Proofs.Ytihgekpijplfiaa.Mp Go.Proofs.Ytihgekpijplfiaa.Fr Go.Proofs.Ytihgekpijplfiaa.Rf Go.Proofs.Ytihgekpijplfiaa.Kit
theorem ok11 : okS [1, 1] = true := by kernel_rfl
theorem code11 : codeOf [1, 1] 1 = 1 := by kernel_rfl
/-- A literal of whole numbers reads as them. -/
theorem C_ints (w : World) (xs : List Int) (m : Nat × Nat) (h : xs.length ≤ 9223372036854775807) : Kd.C (Kd.int .i64) (w.alloc (.cells (xs.flatMap (fun x => [Value.int .i64 x])).toArray 3 m)) (some ⟨w.heap.size, 0, none⟩) xs.length xs :=
  C_row (Kd.int .i64) (fun x => [.int .i64 x]) (fun _ _ => rfl) w 3 m xs h
set_option maxHeartbeats 4000000 in
theorem wakes3 (w : World) : Calls Try.prog 20 #[] w fun e w' => e = .returned (.bool true) ∧ Below w.heap.size w w' := by
  have HN := Aside0.mk (New_ok (some ⟨w.heap.size, 0, none⟩) 2 [1, 1] _ (C_ints w [1, 1] (0, 0) (by decide)) (by decide) ok11)
  go_enter Try.func20, Try.ntmps20
  go_wp2_with fail
  refine HN.out.mono ?_
  rintro e w1 ⟨p, rfl, hT, hB⟩
  have HT := Aside0.mk hT
  have HB := Aside0.mk (below_step (below_alloc (Below.refl w.heap.size w) _) hB)
  clear hT hB HN
  have HC := Aside0.mk (Code_yes _ _ p [1, 1] 1 (by decide) (by decide) (okS_inR ok11).1 (by decide) w1 HT.out)
  rw [code11, show ([1, 1] : List Int).getD 1 0 = 1 from rfl] at HC
  go_wp2_with fail
  refine HC.out.mono ?_
  rintro e w2 ⟨rfl, m, rfl⟩
  go_wp2_with fail
  go_ret
  exact ⟨rfl, pw_below_drewN HB.out m⟩
theorem C_at0 {k : IntKind} {xs : List Int} {W : World} {g n : Nat} (h : (Kd.int k).C W (some ⟨g, 0, none⟩) n xs) (i : Nat) (hi : i < n) : W.cell? ⟨g, i, none⟩ = some (.int k (rd xs (i : Int))) := by
  have := C_at h i hi
  rwa [add_plain] at this
theorem info3 : (Try.prog.info? 3).map (fun i => (i.zero, i.size, i.bytes)) = some (some (.int .i64 0), 1, 8) := by kernel_rfl
def L0 : List Int := [3, 3, 3, 3, 3, 2, 4, 4]
def Wn : List Int := [2, 3, 4, 5, 6, 0, 14, 15]
theorem okL0 : okS L0 = true := by kernel_rfl
theorem codeL0 (i : Nat) (hi : i < 8) : (codeOf L0 i : Int) = rd Wn (i : Int) := by
  have h : ∀ i < 8, ((codeOf L0 i : Nat) : Int) = Wn.getD i 0 := by decide +kernel
  rw [rd_getD]
  exact h i hi
theorem posL0 (i : Nat) (hi : i < 8) : 0 < L0.getD i 0 := by
  have h : ∀ i < 8, 0 < L0.getD i 0 := by decide +kernel
  exact h i hi
/-- Rows of whole numbers, laid out in a block. -/
def RowsAt (W : World) (G : Nat) (rs : List (Option Addr × List Int)) : Prop :=
  W.heap[G]? = some (.cells (rs.map (fun r => Value.slice r.1 r.2.length r.2.length)).toArray 26 (0, 0)) ∧ ∀ r ∈ rs, Kd.C (Kd.int .i64) W r.1 r.2.length r.2
theorem RowsAt.below {W W1 : World} {G : Nat} {rs : List (Option Addr × List Int)} (h : RowsAt W G rs) (k : Below W.heap.size W W1) : RowsAt W1 G rs :=
  ⟨blk_below h.1 k, fun r hr => Kd.C_below (h.2 r hr) k⟩
theorem RowsAt.at_ {W : World} {G : Nat} {rs : List (Option Addr × List Int)} (h : RowsAt W G rs) (i : Nat) (hi : i < rs.length) : W.cell? ⟨G, i, none⟩ = some (.slice rs[i].1 rs[i].2.length rs[i].2.length) ∧ Kd.C (Kd.int .i64) W rs[i].1 rs[i].2.length rs[i].2 := by
  refine ⟨?_, h.2 _ (List.getElem_mem hi)⟩
  rw [blk_cell h.1]
  simp [hi]
theorem rep_flat (n : Nat) : (List.replicate n (0 : Int)).flatMap (fun x => [Value.int .i64 x]) = List.replicate n (Value.int .i64 0) := by
  induction n with
  | zero => rfl
  | succ n ih => rw [List.replicate_succ, List.flatMap_cons, ih, List.replicate_succ]; rfl
theorem C_ints' (w : World) (xs : List Int) (g : Nat) (hg : g = w.heap.size) (h : xs.length ≤ 9223372036854775807) : Kd.C (Kd.int .i64) (w.alloc (.cells (xs.flatMap (fun x => [Value.int .i64 x])).toArray 3)) (some ⟨g, 0, none⟩) xs.length xs := by
  rw [hg]
  exact C_ints w xs (0, 0) h
theorem rows_mk (W : World) (rs : List (Option Addr × List Int)) (G : Nat) (hG : G = W.heap.size) (h : ∀ r ∈ rs, Kd.C (Kd.int .i64) W r.1 r.2.length r.2) : RowsAt (W.alloc (.cells (rs.map (fun r => Value.slice r.1 r.2.length r.2.length)).toArray 26)) G rs := by
  rw [hG]
  exact ⟨heap_alloc_new W _, fun r hr => Kd.C_alloc (h r hr) _⟩
def rowsW (w : World) (N : Nat) (Z : Array Value) : World :=
  (((((((((w.alloc (.cells #[.int .i64 1, .int .i64 1, .int .i64 1] 3)).alloc (.cells #[.int .i64 2, .int .i64 2, .int .i64 2] 3)).alloc (.cells #[.int .i64 2] 3)).alloc (.cells #[.int .i64 1, .int .i64 2] 3)).alloc (.cells #[.int .i64 3, .int .i64 3] 3)).alloc (.cells #[.int .i64 0, .int .i64 15] 3)).alloc (.cells #[.int .i64 (N : Int)] 3)).alloc (.cells #[.int .i64 (-(N : Int))] 3)).alloc (.cells Z 3)).alloc (.cells #[.int .i64 1, .int .i64 0, .int .i64 1, .int .i64 15] 3)
def badRows (s N : Nat) : List (Option Addr × List Int) :=
  [(some ⟨s, 0, none⟩, [1, 1, 1]), (some ⟨s + 1, 0, none⟩, [2, 2, 2]), (some ⟨s + 1 + 1, 0, none⟩, [2]), (some ⟨s + 1 + 1 + 1, 0, none⟩, [1, 2]), (some ⟨s + 1 + 1 + 1 + 1, 0, none⟩, [3, 3]), (some ⟨s + 1 + 1 + 1 + 1 + 1, 0, none⟩, [0, 15]), (some ⟨s + 1 + 1 + 1 + 1 + 1 + 1, 0, none⟩, [(N : Int)]), (some ⟨s + 1 + 1 + 1 + 1 + 1 + 1 + 1, 0, none⟩, [-(N : Int)]), (some ⟨s + 1 + 1 + 1 + 1 + 1 + 1 + 1 + 1, 0, none⟩, List.replicate (305 + N) 0), (some ⟨s + 1 + 1 + 1 + 1 + 1 + 1 + 1 + 1 + 1, 0, none⟩, [1, 0, 1, 15])]
def badW (w : World) (N : Nat) (Z : Array Value) : World :=
  (((((((((((w.alloc (.cells #[.int .i64 1, .int .i64 1, .int .i64 1] 3)).alloc (.cells #[.int .i64 2, .int .i64 2, .int .i64 2] 3)).alloc (.cells #[.int .i64 2] 3)).alloc (.cells #[.int .i64 1, .int .i64 2] 3)).alloc (.cells #[.int .i64 3, .int .i64 3] 3)).alloc (.cells #[.int .i64 0, .int .i64 15] 3)).alloc (.cells #[.int .i64 (N : Int)] 3)).alloc (.cells #[.int .i64 (-(N : Int))] 3)).alloc (.cells Z 3)).alloc (.cells #[.int .i64 1, .int .i64 0, .int .i64 1, .int .i64 15] 3)).alloc (.cells #[.slice (some ⟨w.heap.size, 0, none⟩) 3 3, .slice (some ⟨w.heap.size + 1, 0, none⟩) 3 3, .slice (some ⟨w.heap.size + 1 + 1, 0, none⟩) 1 1, .slice (some ⟨w.heap.size + 1 + 1 + 1, 0, none⟩) 2 2, .slice (some ⟨w.heap.size + 1 + 1 + 1 + 1, 0, none⟩) 2 2, .slice (some ⟨w.heap.size + 1 + 1 + 1 + 1 + 1, 0, none⟩) 2 2, .slice (some ⟨w.heap.size + 1 + 1 + 1 + 1 + 1 + 1, 0, none⟩) 1 1, .slice (some ⟨w.heap.size + 1 + 1 + 1 + 1 + 1 + 1 + 1, 0, none⟩) 1 1, .slice (some ⟨w.heap.size + 1 + 1 + 1 + 1 + 1 + 1 + 1 + 1, 0, none⟩) (305 + N) (305 + N), .slice (some ⟨w.heap.size + 1 + 1 + 1 + 1 + 1 + 1 + 1 + 1 + 1, 0, none⟩) 4 4] 26))
set_option maxHeartbeats 2000000 in
theorem rows_bad (w : World) (N : Nat) (Z : Array Value) (hN : N ≤ 2000) (hZ : Z = ((List.replicate (305 + N) (0 : Int)).flatMap (fun x => [Value.int .i64 x])).toArray) : RowsAt (badW w N Z) (w.heap.size + 1 + 1 + 1 + 1 + 1 + 1 + 1 + 1 + 1 + 1) (badRows w.heap.size N) := by
  have h := rows_mk (rowsW w N Z) (badRows w.heap.size N) (w.heap.size + 1 + 1 + 1 + 1 + 1 + 1 + 1 + 1 + 1 + 1) (by unfold rowsW; simp only [World.size_alloc]) (by
    intro r hr
    unfold rowsW
    unfold badRows at hr
    simp only [List.mem_cons, List.not_mem_nil, or_false] at hr
    rcases hr with rfl | rfl | rfl | rfl | rfl | rfl | rfl | rfl | rfl | rfl
    · refine Kd.C_alloc (Kd.C_alloc (Kd.C_alloc (Kd.C_alloc (Kd.C_alloc (Kd.C_alloc (Kd.C_alloc (Kd.C_alloc (Kd.C_alloc (?_) _) _) _) _) _) _) _) _) _
      exact C_ints' _ [1, 1, 1] _ rfl (by decide)
    · refine Kd.C_alloc (Kd.C_alloc (Kd.C_alloc (Kd.C_alloc (Kd.C_alloc (Kd.C_alloc (Kd.C_alloc (Kd.C_alloc (?_) _) _) _) _) _) _) _) _
      exact C_ints' _ [2, 2, 2] _ (by simp only [World.size_alloc]) (by decide)
    · refine Kd.C_alloc (Kd.C_alloc (Kd.C_alloc (Kd.C_alloc (Kd.C_alloc (Kd.C_alloc (Kd.C_alloc (?_) _) _) _) _) _) _) _
      exact C_ints' _ [2] _ (by simp only [World.size_alloc]) (by decide)
    · refine Kd.C_alloc (Kd.C_alloc (Kd.C_alloc (Kd.C_alloc (Kd.C_alloc (Kd.C_alloc (?_) _) _) _) _) _) _
      exact C_ints' _ [1, 2] _ (by simp only [World.size_alloc]) (by decide)
    · refine Kd.C_alloc (Kd.C_alloc (Kd.C_alloc (Kd.C_alloc (Kd.C_alloc (?_) _) _) _) _) _
      exact C_ints' _ [3, 3] _ (by simp only [World.size_alloc]) (by decide)
    · refine Kd.C_alloc (Kd.C_alloc (Kd.C_alloc (Kd.C_alloc (?_) _) _) _) _
      exact C_ints' _ [0, 15] _ (by simp only [World.size_alloc]) (by decide)
    · refine Kd.C_alloc (Kd.C_alloc (Kd.C_alloc (?_) _) _) _
      exact C_ints' _ [(N : Int)] _ (by simp only [World.size_alloc]) (by show 1 ≤ 9223372036854775807; decide)
    · refine Kd.C_alloc (Kd.C_alloc (?_) _) _
      exact C_ints' _ [-(N : Int)] _ (by simp only [World.size_alloc]) (by show 1 ≤ 9223372036854775807; decide)
    · rw [hZ]
      refine Kd.C_alloc ?_ _
      have h9 := C_ints' ((((((((w.alloc (.cells #[.int .i64 1, .int .i64 1, .int .i64 1] 3)).alloc (.cells #[.int .i64 2, .int .i64 2, .int .i64 2] 3)).alloc (.cells #[.int .i64 2] 3)).alloc (.cells #[.int .i64 1, .int .i64 2] 3)).alloc (.cells #[.int .i64 3, .int .i64 3] 3)).alloc (.cells #[.int .i64 0, .int .i64 15] 3)).alloc (.cells #[.int .i64 (N : Int)] 3)).alloc (.cells #[.int .i64 (-(N : Int))] 3)) (List.replicate (305 + N) 0) (w.heap.size + 1 + 1 + 1 + 1 + 1 + 1 + 1 + 1) (by simp only [World.size_alloc]) (by rw [List.length_replicate]; omega)
      exact h9
    · exact C_ints' _ [1, 0, 1, 15] _ (by simp only [World.size_alloc]) (by decide))
  have e : (rowsW w N Z).alloc (.cells ((badRows w.heap.size N).map (fun r => Value.slice r.1 r.2.length r.2.length)).toArray 26) = badW w N Z := by
    unfold badW rowsW badRows
    simp
  rw [e] at h
  exact h
def goodW (w : World) : World :=
  (((((w.alloc (.cells #[.int .i64 0, .int .i64 0, .int .i64 0] 3)).alloc (.cells #[.int .i64 0, .int .i64 1] 3)).alloc (.cells #[.int .i64 1] 3)).alloc (.cells #[.int .i64 1, .int .i64 1] 3)).alloc (.cells #[.int .i64 2, .int .i64 2, .int .i64 1] 3)).alloc (.cells #[.slice none 0 0, .slice (some ⟨w.heap.size, 0, none⟩) 3 3, .slice (some ⟨w.heap.size + 1, 0, none⟩) 2 2, .slice (some ⟨w.heap.size + 1 + 1, 0, none⟩) 1 1, .slice (some ⟨w.heap.size + 1 + 1 + 1, 0, none⟩) 2 2, .slice (some ⟨w.heap.size + 1 + 1 + 1 + 1, 0, none⟩) 3 3] 26)
def goodRows (s : Nat) : List (Option Addr × List Int) :=
  [(none, []), (some ⟨s, 0, none⟩, [0, 0, 0]), (some ⟨s + 1, 0, none⟩, [0, 1]), (some ⟨s + 1 + 1, 0, none⟩, [1]), (some ⟨s + 1 + 1 + 1, 0, none⟩, [1, 1]), (some ⟨s + 1 + 1 + 1 + 1, 0, none⟩, [2, 2, 1])]
set_option maxHeartbeats 2000000 in
theorem rows_good (w : World) : RowsAt (goodW w) (w.heap.size + 1 + 1 + 1 + 1 + 1) (goodRows w.heap.size) := by
  have h := rows_mk (((((w.alloc (.cells #[.int .i64 0, .int .i64 0, .int .i64 0] 3)).alloc (.cells #[.int .i64 0, .int .i64 1] 3)).alloc (.cells #[.int .i64 1] 3)).alloc (.cells #[.int .i64 1, .int .i64 1] 3)).alloc (.cells #[.int .i64 2, .int .i64 2, .int .i64 1] 3)) (goodRows w.heap.size) (w.heap.size + 1 + 1 + 1 + 1 + 1) (by simp only [World.size_alloc]) (by
    intro r hr
    unfold goodRows at hr
    simp only [List.mem_cons, List.not_mem_nil, or_false] at hr
    rcases hr with rfl | rfl | rfl | rfl | rfl | rfl
    · exact Kd.C_nil _ _
    · refine Kd.C_alloc (Kd.C_alloc (Kd.C_alloc (Kd.C_alloc (?_) _) _) _) _
      exact C_ints' _ [0, 0, 0] _ rfl (by decide)
    · refine Kd.C_alloc (Kd.C_alloc (Kd.C_alloc (?_) _) _) _
      exact C_ints' _ [0, 1] _ (by simp only [World.size_alloc]) (by decide)
    · refine Kd.C_alloc (Kd.C_alloc (?_) _) _
      exact C_ints' _ [1] _ (by simp only [World.size_alloc]) (by decide)
    · refine Kd.C_alloc (?_) _
      exact C_ints' _ [1, 1] _ (by simp only [World.size_alloc]) (by decide)
    · exact C_ints' _ [2, 2, 1] _ (by simp only [World.size_alloc]) (by decide))
  exact h
theorem rows_yes (s : Nat) : ∀ r ∈ goodRows s, okS r.2 = true := by
  intro r hr
  unfold goodRows at hr
  simp only [List.mem_cons, List.not_mem_nil, or_false] at hr
  rcases hr with rfl | rfl | rfl | rfl | rfl | rfl <;> kernel_rfl
theorem rows_no (s N : Nat) (h1 : 16 ≤ N) (h2 : N ≤ 2000) : ∀ r ∈ badRows s N, okS r.2 = false ∧ r.2.length ≤ 35184372088832 := by
  intro r hr
  unfold badRows at hr
  simp only [List.mem_cons, List.not_mem_nil, or_false] at hr
  rcases hr with rfl | rfl | rfl | rfl | rfl | rfl | rfl | rfl | rfl | rfl
  · exact ⟨by kernel_rfl, by simp⟩
  · exact ⟨by kernel_rfl, by simp⟩
  · exact ⟨by kernel_rfl, by simp⟩
  · exact ⟨by kernel_rfl, by simp⟩
  · exact ⟨by kernel_rfl, by simp⟩
  · exact ⟨by kernel_rfl, by simp⟩
  · refine ⟨?_, by show 1 ≤ _; decide⟩
    have : inR [(N : Int)] = false := by simp [inR]; omega
    unfold okS
    rw [this]
    rfl
  · refine ⟨?_, by show 1 ≤ _; decide⟩
    have : inR [-(N : Int)] = false := by simp [inR]; omega
    unfold okS
    rw [this]
    rfl
  · refine ⟨?_, by rw [List.length_replicate]; omega⟩
    unfold okS
    rw [List.length_replicate, show decide (305 + N ≤ 320) = false from decide_eq_false (by omega), Bool.and_false, Bool.false_and]
  · exact ⟨by kernel_rfl, by simp⟩
set_option maxHeartbeats 32000000 in
set_option maxRecDepth 100000 in
theorem HuffForms_walk (a : Int) (a0 : -9223372036854775808 ≤ a) (a1 : a ≤ 9223372036854775807) (w : World) :
    Calls Try.prog 3 #[.int .i64 a] w fun e w' => e = .returned (.bool true) ∧ Below w.heap.size w w' := by
  have HN := Aside0.mk (New_ok (some ⟨w.heap.size, 0, none⟩) 8 L0 _ (C_ints w L0 (0, 0) (by decide)) (by decide) okL0)
  go_enter Try.func3, Try.ntmps3
  go_wp2_with fail
  refine HN.out.mono ?_
  rintro e w1 ⟨p, rfl, hT, hB⟩
  have HT := Aside0.mk hT
  have HB := Aside0.mk (below_step (below_alloc (Below.refl w.heap.size w) _) hB)
  clear hT hB HN
  go_wp2_with fail
  obtain ⟨w5, hw5⟩ : ∃ w5, w5 = w1.alloc (.cells #[.int .i64 2, .int .i64 3, .int .i64 4, .int .i64 5, .int .i64 6, .int .i64 0, .int .i64 14, .int .i64 15] 3) := ⟨_, rfl⟩
  obtain ⟨g5, hg5⟩ : ∃ g5, g5 = w1.heap.size := ⟨_, rfl⟩
  have HR := Aside0.mk (show Kd.C (Kd.int .i64) w5 (some ⟨g5, 0, none⟩) 8 Wn by rw [hw5, hg5]; exact C_ints w1 Wn (0, 0) (by decide))
  have HT5 := Aside0.mk (show IsT _ _ w5 p L0 by rw [hw5]; exact HT.out.fr ((Fr.refl _ No).alloc _) (fun _ _ _ e => e))
  replace HB := Aside0.mk (show Below w.heap.size w w5 by rw [hw5]; exact below_alloc HB.out _)
  rw [← hw5, ← hg5]
  clear HT hw5 hg5
  have HB5 := Aside0.mk (Below.refl w5.heap.size w5)
  go_loopg [31] 8 (fun gk v31 w' => ∃ i : Nat, v31 = .int .i64 (i : Int) ∧ Aside0 (i + gk = 8) ∧ Aside0 (Below w5.heap.size w5 w'))
  case atStart => exact ⟨0, rfl, ⟨rfl⟩, HB5⟩
  case round =>
    clear HB5
    obtain ⟨i, rfl, HK, HB5⟩ := hrel
    obtain ⟨wo, rfl⟩ : ∃ wo : World, wo = wr := ⟨_, rfl⟩
    by_cases hi : i < 8
    · have hi1 : (i : Int) < 8 := by omega
      have hi0 : (0 : Int) ≤ (i : Int) := by omega
      have hx := C_at0 (Kd.C_below HR.out HB5.out) i hi
      have HC := Aside0.mk (Code_yes _ _ p L0 i hi (posL0 i hi) (okS_inR okL0).1 (by decide) wo (HT5.out.fr (Fr.of_below HB5.out No) (fun _ _ _ e => e)))
      rw [codeL0 i hi] at HC
      have HL := Aside0.mk (fun (m : Nat) => C_at0 (C_ints (wo.drewN m) L0 (0, 0) (by decide)) i hi)
      simp only [rd_getD L0] at HL
      generalize rd Wn (i : Int) = c at *
      generalize L0.getD i 0 = l at *
      go_wp2_with fail
      refine HC.out.mono ?_
      rintro e w6 ⟨rfl, m, rfl⟩
      have hL : ((wo.drewN m).alloc (.cells #[.int .i64 3, .int .i64 3, .int .i64 3, .int .i64 3, .int .i64 3, .int .i64 2, .int .i64 4, .int .i64 4] 3)).cell? ⟨wo.heap.size, i, none⟩ = some (.int .i64 l) := HL.out m
      go_wp2_with fail
      clear hx hL
      obtain ⟨g', rfl⟩ : ∃ g', gk = g' + 1 := ⟨gk - 1, by have := HK.out; omega⟩
      go_roundg g'
      case measure => omega
      case rel => exact ⟨i + 1, by go_num, ⟨by have := HK.out; omega⟩, ⟨below_alloc (pw_below_drewN HB5.out m) _⟩⟩
    · obtain rfl : i = 8 := by have := HK.out; omega
      clear HK
      replace HB := Aside0.mk (below_step HB.out HB5.out)
      go_wp2_with fail
      have hw := within_nat a 1000 a0 a1 (by omega) (by omega) wo
      rw [show ((1000 : Nat) : Int) = 1000 from rfl] at hw
      refine hw.mono ?_
      clear hw
      rintro e w6 ⟨n, hn1, hn2, rfl, m6, rfl⟩
      clear hn1
      have hn3 : (n : Int) ≤ 999 := by omega
      replace HB := Aside0.mk (pw_below_drewN HB.out m6)
      obtain ⟨w6, hw6⟩ : ∃ w6, w6 = wo.drewN m6 := ⟨_, rfl⟩
      rw [← hw6] at HB ⊢
      clear hw6
      obtain ⟨N, hN⟩ : ∃ N, N = 16 + n := ⟨_, rfl⟩
      have hNi : (16 : Int) + (n : Int) = (N : Int) := by omega
      have hN3 : (N : Int) ≤ 1015 := by omega
      have hN2 : (16 : Int) ≤ (N : Int) := by omega
      clear hN
      obtain ⟨i0, hi0, hz, hsz, hby⟩ := info_parts info3
      have hmk := fun (W : World) => run_make (P := Try.prog) W 26 3 i0 _ Try.underlying26 hi0 hz .i64 .i64 (305 + (N : Int)) (305 + (N : Int)) (by omega) (by omega) (by rw [hby]; omega) (by omega)
      have hnn : (305 + (N : Int)).toNat = 305 + N := by omega
      simp only [hnn] at hmk
      obtain ⟨Z0, hZ0⟩ : ∃ Z0, madeCells (Value.int .i64 0).cells ((305 + N) * i0.size) = Z0 := ⟨_, rfl⟩
      have hmk2 := fun (W : World) => by have h := hmk W; rw [hZ0] at h; exact h
      clear hmk
      have HZ0 := Aside0.mk (show Z0 = ((List.replicate (305 + N) (0 : Int)).flatMap (fun x => [Value.int .i64 x])).toArray by
        rw [← hZ0, hsz, Nat.mul_one]
        apply Array.toList_inj.1
        show (madeCells #[Value.int .i64 0] (305 + N)).toList = _
        rw [toList_madeCells_one, rep_flat])
      clear hZ0 hi0 hz hsz hby hnn
      go_wp2_with fail
      have hrows := rows_bad w6 N Z0 (by omega) HZ0.out
      obtain ⟨w7, hw7⟩ : ∃ w7, w7 = badW w6 N Z0 := ⟨_, rfl⟩
      rw [← hw7] at hrows
      have hw7' := hw7
      unfold badW at hw7'
      rw [← hw7']
      obtain ⟨g7, hg7⟩ : ∃ g7, g7 = w6.heap.size + 1 + 1 + 1 + 1 + 1 + 1 + 1 + 1 + 1 + 1 := ⟨_, rfl⟩
      rw [← hg7] at hrows ⊢
      have HB7 := Aside0.mk (show Below w.heap.size w w7 by
        rw [hw7]
        unfold badW
        exact below_alloc (below_alloc (below_alloc (below_alloc (below_alloc (below_alloc (below_alloc (below_alloc (below_alloc (below_alloc (below_alloc HB.out _) _) _) _) _) _) _) _) _) _) _)
      have HRW := Aside0.mk hrows
      have HBAD := Aside0.mk (rows_no w6.heap.size N (by omega) (by omega))
      have hlen : (badRows w6.heap.size N).length = 10 := rfl
      generalize badRows w6.heap.size N = rs at *
      clear hrows hw7 hw7' hmk2 hg7 HZ0 HB HT5 HR
      have HBW := Aside0.mk (Below.refl w7.heap.size w7)
      go_loopg [79] 10 (fun gk v79 w' => ∃ i : Nat, v79 = .int .i64 (i : Int) ∧ Aside0 (i + gk = 10) ∧ Aside0 (Below w7.heap.size w7 w'))
      case atStart => exact ⟨0, rfl, ⟨rfl⟩, HBW⟩
      case round =>
        clear HBW
        obtain ⟨i, rfl, HK, HBW⟩ := hrel
        obtain ⟨wi, rfl⟩ : ∃ wi : World, wi = wr := ⟨_, rfl⟩
        by_cases hi : i < 10
        · have hi1 : (i : Int) < 10 := by omega
          have hi0 : (0 : Int) ≤ (i : Int) := by omega
          obtain ⟨hx, hC⟩ := (HRW.out.below HBW.out).at_ i (by omega)
          have hb := HBAD.out _ (List.getElem_mem (show i < rs.length by omega))
          generalize rs[i] = r at *
          have HNB := Aside0.mk (New_bad r.1 r.2.length r.2 wi hC (Nat.le_refl _) hb.2 hb.1)
          generalize r.2.length = L at *
          generalize r.1 = A at *
          clear hC hb
          go_wp2_with fail
          refine HNB.out.mono ?_
          rintro e w8 ⟨rfl, m, rfl⟩
          go_wp2_with fail
          clear hx
          obtain ⟨g', rfl⟩ : ∃ g', gk = g' + 1 := ⟨gk - 1, by have := HK.out; omega⟩
          go_roundg g'
          case measure => omega
          case rel => exact ⟨i + 1, by go_num, ⟨by have := HK.out; omega⟩, ⟨pw_below_drewN HBW.out m⟩⟩
        · obtain rfl : i = 10 := by have := HK.out; omega
          clear HK HRW HBAD
          replace HB7 := Aside0.mk (below_step HB7.out HBW.out)
          go_wp2_with fail
          have hrows := rows_good wi
          obtain ⟨w9, hw9⟩ : ∃ w9, w9 = goodW wi := ⟨_, rfl⟩
          rw [← hw9] at hrows
          have hw9' := hw9
          unfold goodW at hw9'
          rw [← hw9']
          obtain ⟨g9, hg9⟩ : ∃ g9, g9 = wi.heap.size + 1 + 1 + 1 + 1 + 1 := ⟨_, rfl⟩
          rw [← hg9] at hrows ⊢
          have HB9 := Aside0.mk (show Below w.heap.size w w9 by
            rw [hw9]
            unfold goodW
            exact below_alloc (below_alloc (below_alloc (below_alloc (below_alloc (below_alloc HB7.out _) _) _) _) _) _)
          have HRW := Aside0.mk hrows
          have HGOOD := Aside0.mk (rows_yes wi.heap.size)
          have hlen2 : (goodRows wi.heap.size).length = 6 := rfl
          generalize goodRows wi.heap.size = rs2 at *
          clear hrows hw9 hw9' hg9 HB7 hlen
          have HBW2 := Aside0.mk (Below.refl w9.heap.size w9)
          go_loopg [102] 6 (fun gk v102 w' => ∃ i : Nat, v102 = .int .i64 (i : Int) ∧ Aside0 (i + gk = 6) ∧ Aside0 (Below w9.heap.size w9 w'))
          case atStart => exact ⟨0, rfl, ⟨rfl⟩, HBW2⟩
          case round =>
            clear HBW HBW2
            obtain ⟨i, rfl, HK, HBW⟩ := hrel
            obtain ⟨wj, rfl⟩ : ∃ wj : World, wj = wr := ⟨_, rfl⟩
            by_cases hi : i < 6
            · have hi1 : (i : Int) < 6 := by omega
              have hi0 : (0 : Int) ≤ (i : Int) := by omega
              obtain ⟨hx, hC⟩ := (HRW.out.below HBW.out).at_ i (by omega)
              have hb := HGOOD.out _ (List.getElem_mem (show i < rs2.length by omega))
              generalize rs2[i] = r at *
              have HNB := Aside0.mk (New_ok r.1 r.2.length r.2 wj hC (Nat.le_refl _) hb)
              generalize r.2.length = L at *
              generalize r.1 = A at *
              clear hC hb
              go_wp2_with fail
              refine HNB.out.mono ?_
              rintro e w8 ⟨q, rfl, _, hB⟩
              replace HBW := Aside0.mk (below_step HBW.out hB)
              clear hB
              go_wp2_with fail
              clear hx
              obtain ⟨g', rfl⟩ : ∃ g', gk = g' + 1 := ⟨gk - 1, by have := HK.out; omega⟩
              go_roundg g'
              case measure => omega
              case rel => exact ⟨i + 1, by go_num, ⟨by have := HK.out; omega⟩, HBW⟩
            · obtain rfl : i = 6 := by have := HK.out; omega
              clear HK HRW HGOOD
              have HB10 := Aside0.mk (below_step HB9.out HBW.out)
              go_wp2_with fail
              refine (wakes3 _).mono ?_
              rintro e w11 ⟨rfl, hw⟩
              go_wp2_with fail
              go_ret
              exact ⟨rfl, below_step HB10.out hw⟩
theorem HuffForms_row (a : Int) (a0 : (Lit.int .i64 a).wf = true) (w : World) : Calls Try.prog 3 #[.int .i64 a] w fun e w' => e = .returned (.bool true) ∧ Below w.heap.size w w' :=
  HuffForms_walk a (i64_wf a0).1 (i64_wf a0).2 w
end Go.Proofs.Ytihgekpijplfiaa.Hn
