/- bits.Writer: what each method does to the bytes and the count. Conditions: the receiver is a writer of the call's own. -/
import Derived.Test.YtihgekpijplfiaaPBitsReadx1
import Derived.Test.YtihgekpijplfiaaPack
import Derived.StillTailTactics
import Derived.Deep.QuietTactic
import Derived.BigQuiet
import Derived.IntWalk
import Derived.Lib.SliceRun
namespace Go.Proofs.Ytihgekpijplfiaa.Wr
open Go.RowKit Go.Proofs.YtihgekpijplfiaaW.PrintWords Go.Proofs.YtihgekpijplfiaaW.PrintLast Go.Proofs.YtihgekpijplfiaaW.PrintMore Go.Proofs.Ytihgekpijplfiaa.PBitsRead Go.Proofs.Ytihgekpijplfiaa.Pack
set_option linter.unusedVariables false
theorem info5 : (Try.prog.info? 5).map (fun i => (i.zero, i.size, i.bytes)) = some (some (.int .u8 0), 1, 1) := by kernel_rfl
/-- A writer of the call's own: its bytes and how many digits are filled. -/
def IsW (base : Nat) (W : World) (g : Nat) (bs : List Int) (n : Int) : Prop :=
  ∃ v, W.heap[g]? = some (.cells #[v, .int .i64 n] 99 (0, 0)) ∧ base ≤ g ∧ Kd.R (Kd.int .u8) 5 W base (fun _ => True) v bs
/-- The blocks that are a writer's. -/
def WOwn (W : World) (g k : Nat) : Prop := k = g ∨ ∃ v n, W.heap[g]? = some (.cells #[v, n] 99 (0, 0)) ∧ v.ownBlock = some k
/-- What a writer's method leaves: its own blocks and new ones alone are touched. -/
structure WStep (W W' : World) (g : Nat) : Prop where
  os : W'.os = W.os
  tape : W'.tape = W.tape
  output : W'.output = W.output
  kept : Kept W W' (WOwn W g)
  own : ∀ k, WOwn W' g k → WOwn W g k ∨ W.heap.size ≤ k
theorem WStep.trans {W W1 W2 : World} {g : Nat} (h : WStep W W1 g) (k : WStep W1 W2 g) : WStep W W2 g := by
  refine ⟨k.os.trans h.os, k.tape.trans h.tape, k.output.trans h.output, ⟨Nat.le_trans h.kept.1 k.kept.1, fun i hi hn => ?_⟩, fun i hi => ?_⟩
  · rw [k.kept.2 i (Nat.lt_of_lt_of_le hi h.kept.1) (fun hw => by rcases h.own i hw with h1 | h1; exact hn h1; omega), h.kept.2 i hi hn]
  · rcases k.own i hi with h1 | h1
    · exact h.own i h1
    · exact .inr (Nat.le_trans h.kept.1 h1)
theorem WStep.refl (W : World) (g : Nat) : WStep W W g := ⟨rfl, rfl, rfl, Kept.refl _ _, fun _ h => .inl h⟩
theorem WOwn_iff {W : World} {g : Nat} {v : Value} {n : Value} (h1 : W.heap[g]? = some (.cells #[v, n] 99 (0, 0))) (k : Nat) : WOwn W g k ↔ (k = g ∨ v.ownBlock = some k) := by
  constructor
  · rintro (h | ⟨v', n', h4, h5⟩)
    · exact .inl h
    · rw [h1] at h4
      have : v = v' := by
        have h6 := Option.some.inj h4
        injection h6 with h6
        have := congrArg (fun a : Array Value => a[0]?) h6
        simpa using this
      subst this
      exact .inr h5
  · rintro (h | h)
    · exact .inl h
    · exact .inr ⟨v, n, h1, h⟩
theorem IsW.own_ge {base : Nat} {W : World} {g : Nat} {bs : List Int} {n : Int} (h : IsW base W g bs n) (k : Nat) (hk : WOwn W g k) : base ≤ k := by
  obtain ⟨v, h1, h2, h3⟩ := h
  rcases (WOwn_iff h1 k).1 hk with rfl | h5
  · exact h2
  · exact Kd.R_base h3 k h5
theorem IsW.lt {base : Nat} {W : World} {g : Nat} {bs : List Int} {n : Int} (h : IsW base W g bs n) : base ≤ g ∧ g < W.heap.size := by
  obtain ⟨v, h1, h2, h3⟩ := h
  exact ⟨h2, blk_lt h1⟩
theorem IsW.below {base : Nat} {W W' w0 : World} {g : Nat} {bs : List Int} {n : Int} (h : IsW base W g bs n) (hs : WStep W W' g) (hb : Below base w0 W) : Below base w0 W' :=
  ⟨hs.os.trans hb.os, hs.tape.trans hb.tape, hs.output.trans hb.output, Nat.le_trans hb.size hs.kept.1, fun i hi => by
    rw [hs.kept.2 i (by have := h.lt; omega) (fun hw => by have := h.own_ge i hw; omega), hb.block i hi]⟩
/-- A writer behind something else. -/
theorem IsW.move {base : Nat} {W W' : World} {g : Nat} {bs : List Int} {n : Int} (h : IsW base W g bs n) (hm : ∀ k, WOwn W g k → W'.heap[k]? = W.heap[k]?) : IsW base W' g bs n := by
  obtain ⟨v, h1, h2, h3⟩ := h
  refine ⟨v, (hm g (.inl rfl)).trans h1, h2, ?_⟩
  exact Kd.R_mono (Kd.R_move (Kd.R_tight rfl h3) (fun k hk => hm k ((WOwn_iff h1 k).2 (.inr hk.symm)))) (fun _ _ => trivial)
theorem WStep.drew {W W' : World} {g : Nat} (h : WStep W W' g) : WStep W W'.drew g := ⟨h.os, h.tape, h.output, h.kept, h.own⟩
/-- A store into the row of a writer. -/
theorem WStep.row {W : World} {g g0 q L c : Nat} {n : Value} (hb : W.heap[g]? = some (.cells #[.slice (some ⟨g0, 0, none⟩) L c, n] 99 (0, 0))) (hne : g ≠ g0) (u : Value) : WStep W (W.setCell ⟨g0, q, none⟩ u) g := by
  refine ⟨rfl, rfl, rfl, ⟨by simp [World.setCell], fun i hi hn => ?_⟩, fun k hk => ?_⟩
  · refine Below.heap_setCell W ⟨g0, q, none⟩ u i (fun e => hn ((WOwn_iff hb i).2 (.inr ?_)))
    have e' : i = g0 := e
    rw [e']
    rfl
  · exact .inl ((WOwn_iff hb k).2 ((WOwn_iff (blk_far hb hne u) k).1 hk))
/-- A store of the count. -/
theorem WStep.count {W : World} {g : Nat} {v n : Value} (hb : W.heap[g]? = some (.cells #[v, n] 99 (0, 0))) (u : Value) : WStep W (W.setCell ⟨g, 1, none⟩ u) g := by
  have hb' : (W.setCell ⟨g, 1, none⟩ u).heap[g]? = some (.cells #[v, u] 99 (0, 0)) := (blk_set hb 1 u).trans rfl
  refine ⟨rfl, rfl, rfl, ⟨by simp [World.setCell], fun i hi hn => ?_⟩, fun k hk => ?_⟩
  · exact Below.heap_setCell W ⟨g, 1, none⟩ u i (fun e => hn (.inl e))
  · exact .inl ((WOwn_iff hb k).2 ((WOwn_iff hb' k).1 hk))
/-- Bytes appended, and the new row stored. -/
theorem WStep.grow {w W w9 : World} {g : Nat} {v v9 n : Value} (hb : w.heap[g]? = some (.cells #[v, n] 99 (0, 0))) (hW : ∃ m, W = w.drewN m) (hne : some g ≠ v.ownBlock) (hg : W.grownBy w9 v.ownBlock) (hat : v9.ownBlock = v.ownBlock ∨ ∃ b, v9.ownBlock = some b ∧ W.heap.size ≤ b) : WStep w (w9.setCell ⟨g, 0, none⟩ v9) g := by
  obtain ⟨m, rfl⟩ := hW
  have hb9 : w9.heap[g]? = some (.cells #[v, n] 99 (0, 0)) := blk_grown (blk_drewN hb m) hg hne
  have hb' : (w9.setCell ⟨g, 0, none⟩ v9).heap[g]? = some (.cells #[v9, n] 99 (0, 0)) := (blk_set hb9 0 v9).trans rfl
  refine ⟨hg.os, hg.tape, hg.output, ⟨?_, fun i hi hn => ?_⟩, fun k hk => ?_⟩
  · have := hg.size
    simpa [World.setCell] using this
  · rw [Below.heap_setCell w9 ⟨g, 0, none⟩ v9 i (fun e => hn (.inl e))]
    exact hg.block i hi (fun e => hn ((WOwn_iff hb i).2 (.inr e.symm)))
  · rcases (WOwn_iff hb' k).1 hk with h | h
    · exact .inl (.inl h)
    · rcases hat with h2 | ⟨b, h2, h3⟩
      · exact .inl ((WOwn_iff hb k).2 (.inr (h2 ▸ h)))
      · rw [h2] at h
        injection h with h
        exact .inr (h ▸ h3)
/-- The end of 'bit'. -/
theorem bit_end {base g g0 q n L c : Nat} {w W2 : World} {b1 : List Int} {nv : Int} (hg : base ≤ g) (hb : W2.heap[g]? = some (.cells #[.slice (some ⟨g0, 0, none⟩) L c, .int .i64 (n : Int)] 99 (0, 0)))
    (hR : Kd.R (Kd.int .u8) 5 W2 base (fun _ => True) (.slice (some ⟨g0, 0, none⟩) L c) b1) (hs : WStep w W2 g) :
    IsW base ((W2.setCell ⟨g0, q, none⟩ (.int .u8 nv)).setCell ⟨g, 1, none⟩ (.int .i64 ((n : Int) + 1))).drew g (b1.set q nv) ((n + 1 : Nat) : Int) ∧ WStep w ((W2.setCell ⟨g0, q, none⟩ (.int .u8 nv)).setCell ⟨g, 1, none⟩ (.int .i64 ((n : Int) + 1))).drew g := by
  have hne : g ≠ g0 := fun e => by have := Kd.R_ne hR hb (by decide); exact this (by rw [e]; rfl)
  have hb3 := blk_far (p := ⟨g0, q, none⟩) hb hne (.int .u8 nv)
  have hb4 : ((W2.setCell ⟨g0, q, none⟩ (.int .u8 nv)).setCell ⟨g, 1, none⟩ (.int .i64 ((n : Int) + 1))).heap[g]? = some (.cells #[.slice (some ⟨g0, 0, none⟩) L c, .int .i64 ((n : Int) + 1)] 99 (0, 0)) := (blk_set hb3 1 _).trans rfl
  have hput := (Kd.R_putg hR (q : Int) nv).1
  rw [Int.toNat_natCast] at hput
  refine ⟨⟨.slice (some ⟨g0, 0, none⟩) L c, ?_, hg, ?_⟩, (hs.trans ((WStep.row hb hne _).trans (WStep.count hb3 _))).drew⟩
  · exact (blk_drew hb4).trans (by rw [show ((n + 1 : Nat) : Int) = (n : Int) + 1 from by omega])
  · exact Kd.R_drew (Kd.R_set hput hb3 (by decide) 1 _)
theorem wrap_one (one : Int) (h1 : 0 ≤ one) (h2 : one ≤ 1) (r : Nat) : IntKind.u8.wrap (IntKind.u8.wrap one * 2 ^ r) = one * 2 ^ r % 256 := by
  rw [IntKind.wrap_u8, IntKind.wrap_u8, show one % 256 = one from by omega]
set_option maxHeartbeats 4000000 in
set_option maxRecDepth 100000 in
theorem bit_calls (base g : Nat) (bs : List Int) (n : Nat) (one : Int) (w : World) (h1 : 0 ≤ one) (h2 : one ≤ 1) (hn : n ≤ 8 * bs.length) (hn2 : 8 * bs.length < n + 8) (hn3 : n ≤ 2000000000000) (hI : IsW base w g bs (n : Int)) :
    Calls Try.prog 73 #[.pointer (some ⟨g, 0, none⟩), .int .i64 one] w fun e w' => e = .returned (.tuple #[]) ∧ IsW base w' g (bitS bs n one) ((n + 1 : Nat) : Int) ∧ WStep w w' g := by
  obtain ⟨v, hb, hg, hR⟩ := hI
  obtain ⟨A, c, ev⟩ := Kd.R_slice hR
  subst ev
  have HR := Aside0.mk hR
  have HH := Aside0.mk hb
  have x0 : w.cell? ⟨g, 0, none⟩ = some (.slice A bs.length c) := (blk_cell hb 0).trans rfl
  have x1 : w.cell? ⟨g, 1, none⟩ = some (.int .i64 (n : Int)) := (blk_cell hb 1).trans rfl
  have f0 := blk_frozen hb 0
  have f1 := blk_frozen hb 1
  clear hR hb
  by_cases hfull : n = 8 * bs.length
  · have e1 : ((n : Int) == 8 * (bs.length : Int)) = true := by simp; omega
    have HFU := Aside0.mk hfull
    clear hfull
    go_enter Try.func73, Try.ntmps73
    go_wp2_with fail
    have z1 : IntKind.i64.wrap (8 * (bs.length : Int)) = 8 * (bs.length : Int) := IntWalk.i64_in _ (by omega)
    go_quiet (fail)
    clear z1 e1
    go_wp2_with (at_builtin; refine Kd.R_append (Kd.int .u8) (w0 := w) base rfl (.tmp 19) (.tmp 20) 37 5 (.int .u8 0) 1 rfl Try.underlying37 info5 rfl (by decide) (by decide) (.slice A bs.length c) bs 0 [.int .u8 0] (fun _ => True) (fun _ => False) rfl rfl ?aP (fun _ hk => hk.elim) ?aF ?aO ?aB ?aS ?aL ?_; (case aP => rfl); (case aB => exact pw_below_drewN (Below.refl base w) _); (case aF => exact (fun k_ hk => trivial)); (case aO => exact Kd.R_drewN HR.out _); (case aS => exact Nat.le_trans hg (Nat.le_of_lt (blk_lt HH.out))); (case aL => omega); intro v9 w9 ho hb hg9 hat; have HO := Aside0.mk ho; have HB := Aside0.mk hb; have HG9 := Aside0.mk hg9; have HAT := Aside0.mk hat; clear ho hb hg9 hat; obtain ⟨A9, c9, e9⟩ := Kd.R_slice HO.out; subst e9; have hne := Kd.R_ne HR.out HH.out (by decide); have hb9 := blk_grown (blk_drewN HH.out nq) HG9.out hne; have y0 : w9.cell? ⟨g, 0, none⟩ = some (.slice A bs.length c) := (blk_cell hb9 0).trans rfl; have y1 : w9.cell? ⟨g, 1, none⟩ = some (.int .i64 (n : Int)) := (blk_cell hb9 1).trans rfl; have t0 := blk_frozen hb9 0; have t1 := blk_frozen hb9 1; have HB9 := Aside0.mk hb9; clear hb9 hne x0 x1 f0 f1)
    have hb1 : (bs ++ [0] : List Int).length = bs.length + 1 := by simp
    obtain ⟨W2, hW2⟩ : ∃ W2, W2 = w9.setCell ⟨g, 0, none⟩ (.slice A9 (bs.length + 1) c9) := ⟨_, rfl⟩
    rw [← hW2]
    have HB2 := Aside0.mk (show W2.heap[g]? = some (.cells #[.slice A9 (bs.length + 1) c9, .int .i64 (n : Int)] 99 (0, 0)) by rw [hW2]; exact (blk_set HB9.out 0 _).trans rfl)
    have HR2 := Aside0.mk (show Kd.R (Kd.int .u8) 5 W2 base (fun _ => True) (.slice A9 (bs.length + 1) c9) (bs ++ [0]) by rw [hW2]; have h := Kd.R_set HO.out HB9.out (by decide) 0 (.slice A9 (bs.length + 1) c9); rw [hb1] at h; exact h)
    have HS2 : Aside0 (WStep w W2 g) := Aside0.mk (by rw [hW2]; exact WStep.grow HH.out ⟨_, rfl⟩ (Kd.R_ne HR.out HH.out (by decide)) HG9.out (by have h := HAT.out; rw [hb1] at h; exact h))
    clear y0 y1 t0 t1 HB9 HO HB HG9 HAT hW2
    obtain ⟨g0, c0, e0, gb, gl, cl, hcl⟩ := Kd.R_form HR2.out (by omega)
    injection e0 with e1 e2 e3
    subst e1
    clear e2 e3
    obtain ⟨q, hq⟩ : ∃ q : Nat, q = n / 8 := ⟨_, rfl⟩
    obtain ⟨r, hr⟩ : ∃ r : Nat, r = n % 8 := ⟨_, rfl⟩
    have q1 : (q : Int) < ((bs.length + 1 : Nat) : Int) := by have := HFU.out; omega
    have hcf := Kd.R_celln 0 HR2.out (q : Int) (by omega) q1
    rw [Int.toNat_natCast] at hcf
    obtain ⟨hx, hf⟩ := hcf
    have x0 : W2.cell? ⟨g, 0, none⟩ = some (.slice (some ⟨g0, 0, none⟩) (bs.length + 1) c9) := (blk_cell HB2.out 0).trans rfl
    have x1 : W2.cell? ⟨g, 1, none⟩ = some (.int .i64 (n : Int)) := (blk_cell HB2.out 1).trans rfl
    have f1 := blk_frozen HB2.out 1
    have z2 : IntKind.i64.wrap ((n : Int).tdiv 8) = (q : Int) := by rw [hq, Int.tdiv_eq_ediv_of_nonneg (by omega), IntKind.wrap_i64]; omega
    have z3 : (n : Int).tmod 8 = (r : Int) := by rw [hr, Int.tmod_eq_emod_of_nonneg (by omega)]; omega
    have z5 : IntKind.i64.wrap ((n : Int) / 8) = (q : Int) := by rw [hq, IntKind.wrap_i64]; omega
    have z6 : (n : Int) % 8 = (r : Int) := by rw [hr]; omega
    have z4 : 0 ≤ (r : Int) := by omega
    have q2 : (q : Int) < (bs.length : Int) + 1 := by omega
    have HQ := Aside0.mk (And.intro hq hr)
    generalize hold : rdOf 0 (bs ++ [0]) (q : Int) = old at hx
    have HOLD := Aside0.mk hold
    clear hold
    clear hq hr hcl gb gl
    go_still_tail 21, (by kernel_rfl)
    change wpList _ _ _ _ _ W2.drew
    clear x0 z2 z3 z4 z5 z6
    generalize hnv : bits BinOp.or IntKind.u8 old (IntKind.u8.wrap (IntKind.u8.wrap one * 2 ^ r)) = nv
    have HNV := Aside0.mk hnv
    clear hnv
    have hput := Kd.R_putg (Kd.R_drew HR2.out) (q : Int) nv
    rw [Int.toNat_natCast] at hput
    have HP := Aside0.mk hput
    clear hput
    have hne : g ≠ g0 := fun e => by have := Kd.R_ne HR2.out HB2.out (by decide); exact this (by rw [e]; rfl)
    go_wp2_with ((with_reducible refine gate_store (t := 5) (p := 44) rfl ?_); refine store_event (t := 5) (p := 44) (v := .tmp 43) (w1 := (W2.drew.setCell ⟨g0, q, none⟩ (.int .u8 nv))) ?hg ?ho ?hn ?hr ?_; (case ho => rfl); (case hg => rfl); (case hn => rfl); (case hr => first | (go_simp; done) | (go_simp; rfl)); intro w15 hw; have hb15 : w15.heap[g]? = some (.cells #[.slice (some ⟨g0, 0, none⟩) (bs.length + 1) c9, .int .i64 (n : Int)] 99 (0, 0)) := by (rw [hw]; exact blk_far (blk_drew HB2.out) hne _); have HB15 := Aside0.mk hb15; have y1 : w15.cell? ⟨g, 1, none⟩ = some (.int .i64 (n : Int)) := (blk_cell hb15 1).trans rfl; have t1 := blk_frozen hb15 1; have HW := Aside0.mk hw; clear hw hb15 hx hf x1 f1)
    go_end0
    refine ⟨rfl, ?_⟩
    have he := bit_end (q := q) (nv := nv) hg HB2.out HR2.out HS2.out
    have hbs : (bs ++ [0] : List Int).set q nv = bitS bs n one := by
      unfold bitS
      rw [if_pos HFU.out, ← HQ.out.1, ← HQ.out.2, ← HNV.out, wrap_one one h1 h2, ← HOLD.out]
      rfl
    rw [hbs] at he
    exact he
  · have e1 : ((n : Int) == 8 * (bs.length : Int)) = false := by simp; omega
    have HFU := Aside0.mk hfull
    have hpos : 0 < bs.length := by omega
    clear hfull
    go_enter Try.func73, Try.ntmps73
    go_wp2_with fail
    have z1 : IntKind.i64.wrap (8 * (bs.length : Int)) = 8 * (bs.length : Int) := IntWalk.i64_in _ (by omega)
    go_quiet (fail)
    clear z1 e1 x0 x1 f0 f1
    obtain ⟨W2, hW2⟩ : ∃ W2, W2 = w.drewN nq := ⟨_, rfl⟩
    rw [← hW2]
    have HB2 := Aside0.mk (show W2.heap[g]? = some (.cells #[.slice A bs.length c, .int .i64 (n : Int)] 99 (0, 0)) by rw [hW2]; exact blk_drewN HH.out _)
    have HR2 := Aside0.mk (show Kd.R (Kd.int .u8) 5 W2 base (fun _ => True) (.slice A bs.length c) bs by rw [hW2]; exact Kd.R_drewN HR.out _)
    have HS2 : Aside0 (WStep w W2 g) := Aside0.mk (by rw [hW2]; exact ⟨rfl, rfl, rfl, ⟨Nat.le_refl _, fun _ _ _ => rfl⟩, fun _ h => .inl h⟩)
    go_wp2_with fail
    clear hW2
    obtain ⟨g0, c0, e0, gb, gl, cl, hcl⟩ := Kd.R_form HR2.out (by omega)
    injection e0 with e1 e2 e3
    subst e1
    clear e2 e3
    obtain ⟨q, hq⟩ : ∃ q : Nat, q = n / 8 := ⟨_, rfl⟩
    obtain ⟨r, hr⟩ : ∃ r : Nat, r = n % 8 := ⟨_, rfl⟩
    have q1 : (q : Int) < ((bs.length : Nat) : Int) := by have := HFU.out; omega
    have hcf := Kd.R_celln 0 HR2.out (q : Int) (by omega) q1
    rw [Int.toNat_natCast] at hcf
    obtain ⟨hx, hf⟩ := hcf
    have x0 : W2.cell? ⟨g, 0, none⟩ = some (.slice (some ⟨g0, 0, none⟩) bs.length c) := (blk_cell HB2.out 0).trans rfl
    have x1 : W2.cell? ⟨g, 1, none⟩ = some (.int .i64 (n : Int)) := (blk_cell HB2.out 1).trans rfl
    have f1 := blk_frozen HB2.out 1
    have z2 : IntKind.i64.wrap ((n : Int).tdiv 8) = (q : Int) := by rw [hq, Int.tdiv_eq_ediv_of_nonneg (by omega), IntKind.wrap_i64]; omega
    have z3 : (n : Int).tmod 8 = (r : Int) := by rw [hr, Int.tmod_eq_emod_of_nonneg (by omega)]; omega
    have z5 : IntKind.i64.wrap ((n : Int) / 8) = (q : Int) := by rw [hq, IntKind.wrap_i64]; omega
    have z6 : (n : Int) % 8 = (r : Int) := by rw [hr]; omega
    have z4 : 0 ≤ (r : Int) := by omega
    have HQ := Aside0.mk (And.intro hq hr)
    generalize hold : rdOf 0 bs (q : Int) = old at hx
    have HOLD := Aside0.mk hold
    clear hold
    clear hq hr hcl gb gl
    go_still_tail 21, (by kernel_rfl)
    change wpList _ _ _ _ _ W2.drew
    clear x0 z2 z3 z4 z5 z6
    generalize hnv : bits BinOp.or IntKind.u8 old (IntKind.u8.wrap (IntKind.u8.wrap one * 2 ^ r)) = nv
    have HNV := Aside0.mk hnv
    clear hnv
    have hput := Kd.R_putg (Kd.R_drew HR2.out) (q : Int) nv
    rw [Int.toNat_natCast] at hput
    have HP := Aside0.mk hput
    clear hput
    have hne : g ≠ g0 := fun e => by have := Kd.R_ne HR2.out HB2.out (by decide); exact this (by rw [e]; rfl)
    go_wp2_with ((with_reducible refine gate_store (t := 5) (p := 44) rfl ?_); refine store_event (t := 5) (p := 44) (v := .tmp 43) (w1 := (W2.drew.setCell ⟨g0, q, none⟩ (.int .u8 nv))) ?hg ?ho ?hn ?hr ?_; (case ho => rfl); (case hg => rfl); (case hn => rfl); (case hr => first | (go_simp; done) | (go_simp; rfl)); intro w15 hw; have hb15 : w15.heap[g]? = some (.cells #[.slice (some ⟨g0, 0, none⟩) bs.length c, .int .i64 (n : Int)] 99 (0, 0)) := by (rw [hw]; exact blk_far (blk_drew HB2.out) hne _); have HB15 := Aside0.mk hb15; have y1 : w15.cell? ⟨g, 1, none⟩ = some (.int .i64 (n : Int)) := (blk_cell hb15 1).trans rfl; have t1 := blk_frozen hb15 1; have HW := Aside0.mk hw; clear hw hb15 hx hf x1 f1)
    go_end0
    refine ⟨rfl, ?_⟩
    have he := bit_end (q := q) (nv := nv) hg HB2.out HR2.out HS2.out
    have hbs : bs.set q nv = bitS bs n one := by
      unfold bitS
      rw [if_neg HFU.out, ← HQ.out.1, ← HQ.out.2, ← HNV.out, wrap_one one h1 h2, ← HOLD.out]
      rfl
    rw [hbs] at he
    exact he
/-- A writer with these digits in it. -/
def IsWr (base : Nat) (W : World) (g : Nat) (ds : List Int) : Prop := IsW base W g (packB ds) ((ds.length : Nat) : Int) ∧ Bits01 ds ∧ ds.length ≤ 1000000000000
theorem bit_wr (base g : Nat) (ds : List Int) (one : Int) (w : World) (h1 : one = 0 ∨ one = 1) (hl : ds.length < 1000000000000) (hI : IsWr base w g ds) :
    Calls Try.prog 73 #[.pointer (some ⟨g, 0, none⟩), .int .i64 one] w fun e w' => e = .returned (.tuple #[]) ∧ IsWr base w' g (ds ++ [one]) ∧ WStep w w' g := by
  have hp := packB_length ds
  refine (bit_calls base g (packB ds) ds.length one w (by omega) (by omega) (by omega) (by omega) (by omega) hI.1).mono ?_
  rintro e w' ⟨he, hw, hs⟩
  rw [bitS_pack ds one hI.2.1 h1] at hw
  refine ⟨he, ⟨?_, hI.2.1.app (fun d hd => by rw [List.mem_singleton.1 hd]; exact h1), by simp; omega⟩, hs⟩
  rw [List.length_append, List.length_singleton]
  exact hw
/-- A number's digits, the lowest first; the highest first. -/
def lowD (n : Int) (c : Nat) : List Int := (List.range c).map fun (i : Nat) => n / 2 ^ i % 2
def highD (n : Int) (c : Nat) : List Int := (List.range c).map fun (i : Nat) => n / 2 ^ (c - 1 - i) % 2
theorem dig (n : Int) (i : Nat) : n / 2 ^ i % 2 = 0 ∨ n / 2 ^ i % 2 = 1 := by omega
theorem lowD_take (n : Int) (c i : Nat) (h : i < c) : (lowD n c).take (i + 1) = (lowD n c).take i ++ [n / 2 ^ i % 2] := by
  rw [List.take_succ_eq_append_getElem (by simp [lowD]; omega)]
  simp [lowD]
theorem highD_take (n : Int) (c i : Nat) (h : i < c) : (highD n c).take (i + 1) = (highD n c).take i ++ [n / 2 ^ (c - 1 - i) % 2] := by
  rw [List.take_succ_eq_append_getElem (by simp [highD]; omega)]
  simp [highD]
theorem and_one (x : Int) : bits BinOp.and IntKind.i64 x 1 = x % 2 := by
  have h : (BitVec.ofInt 64 x &&& BitVec.ofInt 64 1).toNat = (x % 2).toNat := by
    rw [BitVec.toNat_and, BitVec.toNat_ofInt, BitVec.toNat_ofInt]
    rw [show (1 % ((2 ^ 64 : Nat) : Int)).toNat = 1 from rfl, Nat.and_one_is_mod]
    have : ((2 ^ 64 : Nat) : Int) = 18446744073709551616 := rfl
    rw [this]
    omega
  show IntKind.i64.wrap (((BitVec.ofInt 64 x &&& BitVec.ofInt 64 1).toNat : Nat) : Int) = _
  rw [h, IntKind.wrap_i64]
  omega
set_option maxHeartbeats 1000000 in
theorem Put_calls (base g : Nat) (ds : List Int) (n : Int) (c : Nat) (hc : c ≤ 16) (hn0 : -9223372036854775808 ≤ n) (hn1 : n ≤ 9223372036854775807) (hl : ds.length + c ≤ 1000000000000) (w : World) (hI : IsWr base w g ds) :
    Calls Try.prog 38 #[.pointer (some ⟨g, 0, none⟩), .int .i64 n, .int .i64 (c : Int)] w fun e w' => e = .returned (.tuple #[]) ∧ IsWr base w' g (ds ++ lowD n c) ∧ WStep w w' g := by
  have HI := Aside0.mk hI
  have HL := Aside0.mk hl
  clear hI hl
  have c0 : (0 : Int) ≤ (c : Int) := by omega
  have c1 : (c : Int) ≤ 16 := by omega
  go_enter Try.func38, Try.ntmps38
  go_wp2_with fail
  go_loopg [14] c (fun gk v14 w' => ∃ i : Nat, v14 = .int .i64 (i : Int) ∧ Aside0 (i + gk = c) ∧ Aside0 (IsWr base w' g (ds ++ (lowD n c).take i)) ∧ Aside0 (WStep w w' g))
  case atStart => exact ⟨0, rfl, ⟨by omega⟩, ⟨by simpa using HI.out⟩, ⟨WStep.refl _ _⟩⟩
  case round =>
    clear HI
    obtain ⟨i, rfl, HG, HI, HS⟩ := hrel
    by_cases hi : i < c
    · have hi1 : (i : Int) < (c : Int) := by omega
      have hi2 : (i : Int) ≤ 16 := by omega
      go_wp2_with fail
      rw [and_one]
      have hk := HG.out
      have hlen : ((lowD n c).take i).length = i := by simp [lowD]; omega
      refine (bit_wr base g _ _ _ (dig n i) (by have := HL.out; rw [List.length_append, hlen]; omega) HI.out).mono ?_
      rintro e w5 ⟨rfl, hI, hS⟩
      rw [List.append_assoc, ← lowD_take n c i hi] at hI
      replace HI := Aside0.mk hI
      replace HS := Aside0.mk (HS.out.trans hS)
      clear hI hS hlen hk
      go_wp2_with fail
      obtain ⟨g', rfl⟩ : ∃ g', gk = g' + 1 := ⟨gk - 1, by have := HG.out; omega⟩
      go_roundg g'
      case measure => omega
      case rel => exact ⟨i + 1, by go_num, ⟨by have := HG.out; omega⟩, HI, HS⟩
    · obtain rfl : i = c := by have := HG.out; omega
      clear HG
      go_wp2_with fail
      go_end0
      refine ⟨rfl, ?_, HS.out⟩
      have := HI.out
      rwa [List.take_of_length_le (by simp [lowD])] at this
set_option maxHeartbeats 1000000 in
theorem Code_calls (base g : Nat) (ds : List Int) (n : Int) (c : Nat) (hc : c ≤ 16) (hn0 : -9223372036854775808 ≤ n) (hn1 : n ≤ 9223372036854775807) (hl : ds.length + c ≤ 1000000000000) (w : World) (hI : IsWr base w g ds) :
    Calls Try.prog 39 #[.pointer (some ⟨g, 0, none⟩), .int .i64 n, .int .i64 (c : Int)] w fun e w' => e = .returned (.tuple #[]) ∧ IsWr base w' g (ds ++ highD n c) ∧ WStep w w' g := by
  have HI := Aside0.mk hI
  have HL := Aside0.mk hl
  clear hI hl
  have c0 : (0 : Int) ≤ (c : Int) := by omega
  have c1 : (c : Int) ≤ 16 := by omega
  go_enter Try.func39, Try.ntmps39
  go_wp2_with fail
  go_loopg [14] c (fun gk v14 w' => ∃ i : Nat, v14 = .int .i64 (i : Int) ∧ Aside0 (i + gk = c) ∧ Aside0 (IsWr base w' g (ds ++ (highD n c).take i)) ∧ Aside0 (WStep w w' g))
  case atStart => exact ⟨0, rfl, ⟨by omega⟩, ⟨by simpa using HI.out⟩, ⟨WStep.refl _ _⟩⟩
  case round =>
    clear HI
    obtain ⟨i, rfl, HG, HI, HS⟩ := hrel
    by_cases hi : i < c
    · have hi1 : (i : Int) < (c : Int) := by omega
      have hi2 : (i : Int) ≤ 16 := by omega
      have hz : 0 ≤ (c : Int) - 1 - (i : Int) := by omega
      have hz2 : (c : Int) - 1 - (i : Int) ≤ 16 := by omega
      go_wp2_with fail
      rw [and_one]
      have hk := HG.out
      have hlen : ((highD n c).take i).length = i := by simp [highD]; omega
      refine (bit_wr base g _ _ _ (dig n (c - 1 - i)) (by have := HL.out; rw [List.length_append, hlen]; omega) HI.out).mono ?_
      rintro e w5 ⟨rfl, hI, hS⟩
      rw [List.append_assoc, ← highD_take n c i hi] at hI
      replace HI := Aside0.mk hI
      replace HS := Aside0.mk (HS.out.trans hS)
      clear hI hS hlen hk
      go_wp2_with fail
      obtain ⟨g', rfl⟩ : ∃ g', gk = g' + 1 := ⟨gk - 1, by have := HG.out; omega⟩
      go_roundg g'
      case measure => omega
      case rel => exact ⟨i + 1, by go_num, ⟨by have := HG.out; omega⟩, HI, HS⟩
    · obtain rfl : i = c := by have := HG.out; omega
      clear HG
      go_wp2_with fail
      go_end0
      refine ⟨rfl, ?_, HS.out⟩
      have := HI.out
      rwa [List.take_of_length_le (by simp [highD])] at this
theorem Put_bad (g : Nat) (n c : Int) (h : c < 0 ∨ 16 < c) (w : World) : Calls Try.prog 38 #[.pointer (some ⟨g, 0, none⟩), .int .i64 n, .int .i64 c] w fun e w' => e = .returned (.tuple #[]) ∧ w' = w := by
  by_cases hc : c < 0
  · go_enter Try.func38, Try.ntmps38
    go_wp2_with fail
    refine bodyPost_ret (results_none rfl _ _ _) rfl ?_
    exact ⟨rfl, rfl⟩
  · have hc2 : 16 < c := by omega
    go_enter Try.func38, Try.ntmps38
    go_wp2_with fail
    refine bodyPost_ret (results_none rfl _ _ _) rfl ?_
    exact ⟨rfl, rfl⟩
theorem Code_bad (g : Nat) (n c : Int) (h : c < 0 ∨ 16 < c) (w : World) : Calls Try.prog 39 #[.pointer (some ⟨g, 0, none⟩), .int .i64 n, .int .i64 c] w fun e w' => e = .returned (.tuple #[]) ∧ w' = w := by
  by_cases hc : c < 0
  · go_enter Try.func39, Try.ntmps39
    go_wp2_with fail
    refine bodyPost_ret (results_none rfl _ _ _) rfl ?_
    exact ⟨rfl, rfl⟩
  · have hc2 : 16 < c := by omega
    go_enter Try.func39, Try.ntmps39
    go_wp2_with fail
    refine bodyPost_ret (results_none rfl _ _ _) rfl ?_
    exact ⟨rfl, rfl⟩
/-- Noughts up to a whole byte. -/
def padD (k : Nat) : List Int := List.replicate ((8 - k % 8) % 8) 0
theorem pk_zeros (ds : List Int) : ∀ n, pk (ds ++ List.replicate n 0) = pk ds
  | 0 => by simp
  | n + 1 => by rw [List.replicate_succ', ← List.append_assoc, pk_snoc, pk_zeros ds n]; simp
theorem packB_pad (ds : List Int) : packB (ds ++ padD ds.length) = packB ds := by
  have hl : (ds ++ padD ds.length).length = 8 * ((ds.length + 7) / 8) := by simp [padD]; omega
  apply List.ext_getElem?
  intro j
  by_cases hj : j < (ds.length + 7) / 8
  · rw [packB_get _ j (by rw [hl]; omega), packB_get ds j hj]
    congr 1
    by_cases hlt : 8 * j + 8 ≤ ds.length
    · rw [List.drop_append_of_le_length (by omega), List.take_append_of_le_length (by rw [List.length_drop]; omega)]
    · rw [List.drop_append_of_le_length (by omega), List.take_of_length_le (l := ds.drop (8 * j)) (by rw [List.length_drop]; omega), List.take_of_length_le (by rw [List.length_append, List.length_drop]; simp [padD]; omega)]
      exact pk_zeros _ _
  · rw [List.getElem?_eq_none (by rw [packB_length, hl]; omega), List.getElem?_eq_none (by rw [packB_length]; omega)]
set_option maxHeartbeats 1000000 in
theorem Align_calls (base g : Nat) (ds : List Int) (hl : ds.length ≤ 999999999990) (w : World) (hI : IsWr base w g ds) :
    Calls Try.prog 84 #[.pointer (some ⟨g, 0, none⟩)] w fun e w' => e = .returned (.tuple #[]) ∧ IsWr base w' g (ds ++ padD ds.length) ∧ WStep w w' g := by
  obtain ⟨⟨v, hb, hg, hR⟩, h01, hle⟩ := hI
  obtain ⟨A, c, ev⟩ := Kd.R_slice hR
  subst ev
  have hpl := packB_length ds
  have HR := Aside0.mk hR
  have HH := Aside0.mk hb
  have x0 : w.cell? ⟨g, 0, none⟩ = some (.slice A (packB ds).length c) := (blk_cell hb 0).trans rfl
  have x1 : w.cell? ⟨g, 1, none⟩ = some (.int .i64 (ds.length : Int)) := (blk_cell hb 1).trans rfl
  have f1 := blk_frozen hb 1
  have hlb : (packB ds).length ≤ 999999999990 := by omega
  have HPL := Aside0.mk hpl
  clear hR hb hpl
  go_enter Try.func84, Try.ntmps84
  go_wp2_with fail
  go_end0
  have hset := (blk_set HH.out 1 (.int .i64 (8 * ((packB ds).length : Int)))).trans rfl
  refine ⟨rfl, ⟨⟨.slice A (packB ds).length c, ?_, hg, ?_⟩, h01.app (fun d hd => .inl (List.eq_of_mem_replicate hd)), ?_⟩, WStep.count HH.out _⟩
  · have hk : ((ds ++ padD ds.length).length : Int) = 8 * ((packB ds).length : Int) := by
      have := HPL.out
      simp [padD]
      omega
    rw [hk]
    exact hset
  · rw [packB_pad]
    exact Kd.R_set HR.out HH.out (by decide) 1 _
  · simp [padD]; omega
set_option maxHeartbeats 1000000 in
theorem Clone_calls (A : Option Addr) (c : Nat) (xs : List Int) (w : World) (hr : Kd.C (Kd.int .u8) w A xs.length xs) (hA : A = none → xs = [] ∧ c = 0) (hl : xs.length ≤ 140737488355328) :
    Calls Try.prog 72 #[.slice A xs.length c] w fun e w' => ∃ v : Value, e = .returned v ∧ Kd.R (Kd.int .u8) 5 w' w.heap.size (fun _ => True) v xs ∧ Below w.heap.size w w' := by
  have HR := Aside0.mk hr
  clear hr
  have hnil := fun (w : World) (a : Option Addr) (n c n' c' : Nat) => Lib.run_eql_slice_nil (P := Try.prog) w 37 5 a n c n' c' Try.underlying37
  cases A with
  | none =>
    obtain ⟨rfl, rfl⟩ := hA rfl
    go_enter Try.func72, Try.ntmps72
    go_wp2_with fail
    go_ret
    exact ⟨_, rfl, Kd.R_nil _ _ _ _ _, Below.refl _ _⟩
  | some ad =>
    clear hA
    go_enter Try.func72, Try.ntmps72
    go_wp2_with (first | ((with_reducible refine gate_dst (N := 5) rfl ?_); refine Kd.R_lit (Kd.int .u8) _ 5 ?hg (N := 5) ?hd (xs := ([] : List Int)) (inner := []) (ok := fun _ => True) (okp := fun _ => True) ?hr ?hp (fun _ hk => hk) trivial (Below.refl _ _) (Nat.le_refl _) (by simp) ?_; (case hd => rfl); (case hg => rfl); (case hr => first | (go_simp; done) | (go_simp; rfl)); (case hp => exact Reps.none _ _); intro v8 w4 ho hb hg_ hnew_; have HO := Aside0.mk ho; have HB := Aside0.mk hb; clear hg_ hnew_ ho hb) | (at_builtin; refine Kd.R_append_rows (Kd.int .u8) (w0 := w) w.heap.size rfl (.tmp 5) (.tmp 6) 37 5 (.int .u8 0) 1 rfl Try.underlying37 info5 rfl (by decide) (by decide) v8 [] xs (some ad) xs.length c (fun _ => True) (fun _ => False) rfl rfl HO.out (Kd.C_below HR.out HB.out) (fun x cs h => h) (fun _ hk => hk.elim) (fun _ _ => trivial) HB.out (below_size HB.out) (by simp; omega) ?_; intro v1 w1 ho hb hg hat; have HO2 := Aside0.mk ho; have HB2 := Aside0.mk hb; clear ho hb hg hat))
    rw [List.nil_append] at HO2
    obtain ⟨A1, c1, e1⟩ := Kd.R_slice HO2.out
    subst e1
    go_ret
    exact ⟨_, rfl, HO2.out, HB2.out⟩
end Go.Proofs.Ytihgekpijplfiaa.Wr
