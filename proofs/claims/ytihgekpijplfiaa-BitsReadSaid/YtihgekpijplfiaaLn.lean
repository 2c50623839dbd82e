/- florilegiumkeep.Lend and Intact: bytes lent, with three more behind them, that read as they did. Conditions: the slices that come in read as numbers. -/
import Derived.Test.YtihgekpijplfiaaFr
import Derived.Test.YtihgekpijplfiaaCp
import Derived.Laws.CopyOwn
namespace Go.Proofs.Ytihgekpijplfiaa.Ln
set_option linter.unusedVariables false
open Go.RowKit Go.Proofs.YtihgekpijplfiaaW.PrintWords Go.Proofs.YtihgekpijplfiaaW.PrintLast Go.Proofs.YtihgekpijplfiaaW.PrintMore Go.Proofs.Ytihgekpijplfiaa.Wr Go.Proofs.Ytihgekpijplfiaa.Fr
def u8s (l : List Int) : List Value := l.map (Value.int .u8)
theorem u8s_one (l : List Int) : ∀ v ∈ u8s l, v.oneCell' = true := fun v hv => by
  obtain ⟨x, _, rfl⟩ := List.mem_map.1 hv
  rfl
/-- Bytes that are lent: all of their block, with the three behind them. -/
def Lent (W : World) (g : Nat) (bs : List Int) : Prop := W.heap[g]? = some (.cells (u8s (bs ++ [85, 85, 85])).toArray 5 (0, 0))
/-- On the way there: k of the three are written. -/
def part (bs : List Int) (k : Nat) : List Value := u8s (bs ++ (List.replicate k 85 ++ List.replicate (3 - k) 0))
theorem part_len (bs : List Int) (k : Nat) (hk : k ≤ 3) : (part bs k).length = bs.length + 3 := by simp [part, u8s]; omega
theorem splice_part (bs : List Int) : splice (List.replicate (bs.length + 3) (Value.int .u8 0)) 0 (u8s bs) = part bs 0 := by
  simp [splice, part, u8s]
theorem part_three (bs : List Int) : part bs 3 = u8s (bs ++ [85, 85, 85]) := rfl
theorem part_at (bs : List Int) (k : Nat) (hk : k < 3) : ∃ u, (part bs k)[bs.length + k]? = some u := by
  have h : bs.length + k < (part bs k).length := by rw [part_len bs k (by omega)]; omega
  exact ⟨_, List.getElem?_eq_getElem h⟩
theorem part_set (bs : List Int) (k : Nat) (hk : k < 3) : (part bs k).set (bs.length + k) (.int .u8 85) = part bs (k + 1) := by
  have e : ∀ k < 3, (List.replicate k (85 : Int) ++ List.replicate (3 - k) 0).set k 85 = List.replicate (k + 1) 85 ++ List.replicate (3 - (k + 1)) 0 := by decide
  unfold part u8s
  rw [← List.map_set]
  congr 1
  rw [List.set_append, if_neg (by omega), Nat.add_sub_cancel_left, e k hk]
theorem Lent.C {W : World} {g : Nat} {bs : List Int} (h : Lent W g bs) (hl : bs.length ≤ 9223372036854775807) : Kd.C (Kd.int .u8) W (some ⟨g, 0, none⟩) bs.length bs := by
  refine ⟨rfl, hl, fun _ => ⟨_, rfl, fun j p hj => ⟨[.int .u8 p], rfl, rfl, fun i u hu => ?_⟩⟩⟩
  have hi : i = 0 := by
    have := (List.getElem?_eq_some_iff.1 hu).1
    simpa using this
  subst hi
  have hj' : j < bs.length := (List.getElem?_eq_some_iff.1 hj).1
  unfold Lent at h
  rw [add_plain]
  simp only [World.cell?, h]
  have e : j * (Kd.int .u8).sz + 0 = j := by show j * 1 + 0 = j; omega
  rw [e]
  have hu' : Value.int .u8 p = u := by simpa using hu
  show (u8s (bs ++ [85, 85, 85])).toArray[j]? = some u
  rw [List.getElem?_toArray, u8s, List.getElem?_map, List.getElem?_append_left hj', hj, ← hu']
  rfl
set_option maxHeartbeats 4000000 in
set_option maxRecDepth 100000 in
theorem Lend_calls (A : Option Addr) (c : Nat) (bs : List Int) (w : World) (hC : Kd.C (Kd.int .u8) w A bs.length bs) (hl : bs.length ≤ 140737488351232) :
    Calls Try.prog 31 #[.slice A bs.length c] w fun e w' => e = .returned (.slice (some ⟨w.heap.size, 0, none⟩) bs.length (bs.length + 3)) ∧ Lent w' w.heap.size bs ∧ Below w.heap.size w w' := by
  obtain ⟨i0, hi, hz, hsz, hby⟩ := info_parts info5
  have hmk := run_make (P := Try.prog) w 37 5 i0 (.int .u8 0) Try.underlying37 hi hz .i64 .i64 (bs.length : Int) ((bs.length : Int) + 3) (by omega) (by omega) (by rw [hby]; omega) (by omega)
  rw [Int.toNat_natCast, show ((bs.length : Int) + 3).toNat = bs.length + 3 from by omega, hsz, Nat.mul_one] at hmk
  have hz0 : madeCells (Value.int .u8 0).cells (bs.length + 3) = (List.replicate (bs.length + 3) (Value.int .u8 0)).toArray := by
    have := toList_madeCells_one (.int .u8 0) (bs.length + 3)
    apply Array.toList_inj.1
    simpa [Value.cells] using this
  rw [hz0] at hmk
  obtain ⟨Z, hZ⟩ : ∃ Z : List Value, Z = List.replicate (bs.length + 3) (Value.int .u8 0) := ⟨_, rfl⟩
  rw [← hZ] at hmk
  have HZZ := Aside0.mk hZ
  clear hZ
  have HZ := Aside0.mk (show (w.alloc (.cells Z.toArray 5)).heap[w.heap.size]? = some (.cells Z.toArray 5 (0, 0)) from heap_alloc_new w _)
  have HBL := Aside0.mk (below_alloc (Below.refl w.heap.size w) (.cells Z.toArray 5))
  have HC := Aside0.mk (Kd.C_alloc hC (.cells Z.toArray 5))
  have hu5 : (Try.prog.info? 5).map (·.size) = some 1 := by rw [hi]; simp [hsz]
  have HU := Aside0.mk hu5
  have hpos : 0 < (u8s bs).length → ∃ ad, A = some ad ∧ ∀ j v, (u8s bs)[j]? = some v → (w.alloc (.cells Z.toArray 5)).cell? (ad.add j) = some v := by
    intro h
    have h0 : 0 < bs.length := by simpa [u8s] using h
    obtain ⟨ad, ea, _⟩ := Kd.at_int HC.out 0 (by decide) (by omega)
    refine ⟨ad, ea, fun j v hj => ?_⟩
    have hj1 : j < bs.length := by have := (List.getElem?_eq_some_iff.1 hj).1; simpa [u8s] using this
    obtain ⟨ad', ea', hx⟩ := Kd.at_int HC.out (j : Int) (by omega) (by omega)
    rw [ea] at ea'
    injection ea' with ea'
    subst ea'
    rw [Int.toNat_natCast] at hx
    rw [hx, ← hj]
    simp [u8s, rd, hj1]
  have HPOS := Aside0.mk hpos
  clear hz0 hC hi hz hsz hby hu5 hpos
  go_enter Try.func31, Try.ntmps31
  go_wp2_with (with_reducible refine wpList_copy_splice rfl (.tmp 12) (.tmp 13) 37 37 rfl 5 Try.underlying37 HU.out (some ⟨w.heap.size, 0, none⟩) A bs.length (bs.length + 3) bs.length c rfl rfl w.heap.size 0 Z 5 HZ.out (u8s bs) ?c1 (fun h => ⟨rfl, HPOS.out h⟩) ?c2 ?c3 w.heap.size w HBL.out (Nat.le_refl _) ?_; (case c1 => simp [u8s]); (case c2 => rw [HZZ.out]; simp [u8s]); (case c3 => exact u8s_one bs); intro w2 hh hb; have HH := Aside0.mk hh; have HB := Aside0.mk hb; clear hh hb)
  have HP := Aside0.mk (show w2.heap[w.heap.size]? = some (.cells (part bs 0).toArray 5 (0, 0)) by
    have h := HH.out.out
    rw [HZZ.out, splice_part] at h
    exact h)
  clear HH hmk HZ HBL HC HPOS
  obtain ⟨g, hg⟩ : ∃ g, g = w.heap.size := ⟨_, rfl⟩
  rw [← hg] at HP ⊢
  have HG := Aside0.mk hg
  clear hg
  go_loopg [5] 3 (fun gk v5 w' => ∃ k : Nat, v5 = .int .i64 ((bs.length : Int) + (k : Int)) ∧ Aside0 (k + gk = 3) ∧ Aside0 (w'.heap[g]? = some (.cells (part bs k).toArray 5 (0, 0))) ∧ Aside0 (Below w.heap.size w w'))
  case atStart => exact ⟨0, by simp, ⟨rfl⟩, HP, HB⟩
  case round =>
    clear HP HB
    obtain ⟨k, rfl, HK, HP, HB⟩ := hrel
    obtain ⟨wo, rfl⟩ : ∃ wo : World, wo = wr := ⟨_, rfl⟩
    by_cases hk : k < 3
    · have hk1 : (k : Int) < 3 := by omega
      have hk0 : (0 : Int) ≤ (k : Int) := by omega
      obtain ⟨u, hu⟩ := part_at bs k hk
      obtain ⟨x, hx⟩ : ∃ x : Nat, x = bs.length + k := ⟨_, rfl⟩
      have hxx : (bs.length : Int) + (k : Int) = (x : Int) := by omega
      have hx0 : wo.cell? ⟨g, x, none⟩ = some u := by
        rw [blk_cell HP.out, hx]
        simpa using hu
      have hf0 := blk_frozen HP.out x
      have HX := Aside0.mk hx
      have hx2 : (x : Int) < (bs.length : Int) + 3 := by omega
      clear hu hx
      rw [hxx]
      go_wp2_with fail
      obtain ⟨g', rfl⟩ : ∃ g', gk = g' + 1 := ⟨gk - 1, by have := HK.out; omega⟩
      have HS := Aside0.mk (show (wo.setCell ⟨g, x, none⟩ (.int .u8 85)).heap[g]? = some (.cells (part bs (k + 1)).toArray 5 (0, 0)) by
        refine (blk_set HP.out x _).trans ?_
        rw [HX.out, List.setIfInBounds_toArray, part_set bs k hk])
      go_roundg g'
      case measure => omega
      case rel => exact ⟨k + 1, by rw [← hxx]; go_num, ⟨by have := HK.out; omega⟩, HS, ⟨HB.out.setCell (by rw [HG.out]; exact Nat.le_refl _) _⟩⟩
    · obtain rfl : k = 3 := by have := HK.out; omega
      clear HK
      go_wp2_with fail
      go_ret
      obtain rfl := HG.out
      refine ⟨rfl, ?_, HB.out⟩
      have h := HP.out
      rwa [part_three] at h
theorem Lent.fr {W W1 : World} {g : Nat} {bs : List Int} {S : Nat → Prop} (h : Lent W g bs) (k : Fr W W1 S) (hs : ¬ S g) : Lent W1 g bs := (k.blk g (blk_lt h) hs).trans h
theorem Lent.at_ {W : World} {g : Nat} {bs : List Int} (h : Lent W g bs) (i : Nat) (hi : i < bs.length + 3) : W.cell? ⟨g, i, none⟩ = some (.int .u8 ((bs ++ [85, 85, 85]).getD i 0)) := by
  unfold Lent at h
  rw [blk_cell h]
  have hi' : i < (bs ++ [85, 85, 85]).length := by simp; omega
  rw [List.getElem?_toArray, u8s, List.getElem?_map, List.getElem?_eq_getElem hi', List.getD_eq_getElem?_getD, List.getElem?_eq_getElem hi']
  rfl
theorem lent_low (bs : List Int) (i : Nat) (hi : i < bs.length) : (bs ++ [85, 85, 85]).getD i 0 = rd bs (i : Int) := by
  simp [rd, List.getD_eq_getElem?_getD, List.getElem?_append_left hi]
theorem lent_high (bs : List Int) (i : Nat) (hi : bs.length ≤ i) (h3 : i < bs.length + 3) : (bs ++ [85, 85, 85]).getD i 0 = 85 := by
  rw [List.getD_eq_getElem?_getD, List.getElem?_append_right hi]
  have : i - bs.length = 0 ∨ i - bs.length = 1 ∨ i - bs.length = 2 := by omega
  rcases this with e | e | e <;> rw [e] <;> rfl
set_option maxHeartbeats 4000000 in
set_option maxRecDepth 100000 in
theorem Intact_calls (g : Nat) (A : Option Addr) (c : Nat) (bs : List Int) (w : World) (hL : Lent w g bs) (hC : Kd.C (Kd.int .u8) w A bs.length bs) (hl : bs.length ≤ 140737488351232) :
    Calls Try.prog 36 #[.slice (some ⟨g, 0, none⟩) bs.length (bs.length + 3), .slice A bs.length c] w fun e w' => e = .returned (.bool true) ∧ ∃ m, w' = w.drewN m := by
  have HL := Aside0.mk hL
  have HC := Aside0.mk hC
  clear hL hC
  go_enter Try.func36, Try.ntmps36
  go_wp2_with fail
  go_loopg [27] (bs.length + 3) (fun gk v27 w' => ∃ i : Nat, v27 = .int .i64 (i : Int) ∧ Aside0 (i + gk = bs.length + 3) ∧ Drawn0 w w')
  case atStart => exact ⟨0, rfl, ⟨by omega⟩, Drawn0.refl _⟩
  case round =>
    obtain ⟨i, rfl, HK, ⟨m, rfl⟩⟩ := hrel
    by_cases hi : i < bs.length + 3
    · have hi1 : (i : Int) < (bs.length : Int) + 3 := by omega
      have hi0 : (0 : Int) ≤ (i : Int) := by omega
      have hx := HL.out.at_ i hi
      by_cases hlo : i < bs.length
      · have d1 : decide ((i : Int) < (bs.length : Int)) = true := decide_eq_true (by omega)
        have d2 : decide ((bs.length : Int) ≤ (i : Int)) = false := decide_eq_false (by omega)
        have hlo1 : (i : Int) < (bs.length : Int) := by omega
        rw [lent_low bs i hlo] at hx
        obtain ⟨ad, ea, hy⟩ := Kd.at_int HC.out (i : Int) hi0 hlo1
        rw [Int.toNat_natCast] at hy
        subst ea
        generalize rd bs (i : Int) = v at hx hy
        have hi9 : (i : Int) ≤ 9223372036854775000 := by omega
        have d3 : decide (bs.length ≤ i) = false := decide_eq_false (by omega)
        have d4 : decide (i < bs.length) = true := decide_eq_true hlo
        clear hi hlo
        go_wp2_with fail
        go_quiet (fail)
        go_wp2_with fail
        obtain ⟨g', rfl⟩ : ∃ g', gk = g' + 1 := ⟨gk - 1, by have := HK.out; omega⟩
        go_roundg g'
        case measure => omega
        case rel => exact ⟨i + 1, by go_num, ⟨by have := HK.out; omega⟩, ⟨_, rfl⟩⟩
      · have d1 : decide ((i : Int) < (bs.length : Int)) = false := decide_eq_false (by omega)
        have d2 : decide ((bs.length : Int) ≤ (i : Int)) = true := decide_eq_true (by omega)
        rw [lent_high bs i (by omega) hi] at hx
        have hi9 : (i : Int) ≤ 9223372036854775000 := by omega
        have hlo1 : (bs.length : Int) ≤ (i : Int) := by omega
        have d3 : decide (bs.length ≤ i) = true := decide_eq_true (by omega)
        have d4 : decide (i < bs.length) = false := decide_eq_false hlo
        clear hi hlo
        go_wp2_with fail
        go_quiet (fail)
        go_wp2_with fail
        obtain ⟨g', rfl⟩ : ∃ g', gk = g' + 1 := ⟨gk - 1, by have := HK.out; omega⟩
        go_roundg g'
        case measure => omega
        case rel => exact ⟨i + 1, by go_num, ⟨by have := HK.out; omega⟩, ⟨_, rfl⟩⟩
    · obtain rfl : i = bs.length + 3 := by have := HK.out; omega
      clear HK
      go_wp2_with fail
      go_ret
      exact ⟨rfl, _, rfl⟩
end Go.Proofs.Ytihgekpijplfiaa.Ln
