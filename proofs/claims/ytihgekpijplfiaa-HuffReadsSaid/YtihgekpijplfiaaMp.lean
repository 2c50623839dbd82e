/- A map from codes to signs, entry by entry: what it holds, what a lookup finds, what a store adds. Conditions: keys and values are ints of 64 digits. -/
import Derived.Test.YtihgekpijplfiaaFr
import Derived.DeepKeys4
import Derived.Maps.Keyed
namespace Go.Proofs.Ytihgekpijplfiaa.Mp
set_option linter.unusedVariables false
open Go.RowKit Go.Maps Go.Proofs.YtihgekpijplfiaaW.PrintWords Go.Proofs.Ytihgekpijplfiaa.Fr
theorem laidOut : laidOutB Try.prog = true := by kernel_rfl
theorem row95 : (95 : TypeId) < Try.prog.types.size := of_decide_eq_true (by kernel_rfl)
theorem size95 : Try.prog.types.size = 152 := by kernel_rfl
theorem wide95 : (match Try.prog.underlying 95 with | some (.array _ _) | some (.struct _) => true | _ => false) = true := by rw [Try.underlying95]
set_option maxRecDepth 100000 in
theorem law95 : Keyed Try.prog 95 := Keyed.of_law (deep_law_laid laidOut (m := 2) (by omega) row95 (by kernel_rfl) wide95)
theorem key95 : Try.prog.keyType 95 = true := by kernel_rfl
theorem cells95 : Try.prog.cellsOf 95 = 2 := by kernel_rfl
theorem cells3 : Try.prog.cellsOf 3 = 1 := by kernel_rfl
theorem formed95 (c n : Int) : (Value.agg #[.int .i64 c, .int .i64 n]).formed Try.prog 95 = true := by simp [Value.formed, Try.underlying95, cells95]
theorem lits3 (d : Nat) (c : Int) (hc : (Lit.int .i64 c).wf = true) : Try.prog.keyLits (d + 1) 3 [.int .i64 c] = some [.int .i64 c] := by
  simp [Program.keyLits, Try.underlying3, hc]
theorem lits95 (d : Nat) (c n : Int) (hc : (Lit.int .i64 c).wf = true) (hn : (Lit.int .i64 n).wf = true) : Try.prog.keyLits (d + 2) 95 [.int .i64 c, .int .i64 n] = some [.int .i64 c, .int .i64 n] := by
  unfold Program.keyLits
  simp only [Try.underlying95]
  simp [cells95, cells3, lits3 d c hc, lits3 d n hn]
theorem keyOf95 (c n : Int) (hc : (Lit.int .i64 c).wf = true) (hn : (Lit.int .i64 n).wf = true) : ∃ l, keyOf Try.prog 95 (.agg #[.int .i64 c, .int .i64 n]) = some l := by
  have h := lits95 151 c n hc hn
  unfold keyOf
  rw [Try.underlying95]
  simp only [key95, formed95, size95, Value.cells]
  rw [show (152 + 1) = 151 + 2 from rfl, h]
  exact ⟨_, rfl⟩
def keyV (k : Int × Int) : Value := .agg #[.int .i64 k.1, .int .i64 k.2]
theorem keyV_inj {a b : Int × Int} (h : keyV a = keyV b) : a = b := by
  obtain ⟨a1, a2⟩ := a
  obtain ⟨b1, b2⟩ := b
  simp [keyV] at h
  simp [h.1, h.2]
def okKey (k : Int × Int) : Prop := (Lit.int .i64 k.1).wf = true ∧ (Lit.int .i64 k.2).wf = true
/-- The map at block g holds these entries, in this order. -/
def IsM (W : World) (g : Nat) (xs : List ((Int × Int) × Int)) : Prop :=
  ∃ (es : Array MapEntry) (clock : Nat), W.heap[g]? = some (.map es clock) ∧ es.toList.map (fun e => (e.key, e.val)) = xs.map (fun x => (keyV x.1, Value.int .i64 x.2)) ∧ ∀ x ∈ xs, okKey x.1
theorem IsM.lt {W : World} {g : Nat} {xs : List ((Int × Int) × Int)} (h : IsM W g xs) : g < W.heap.size := by
  obtain ⟨es, clock, h1, _⟩ := h
  exact blk_lt h1
theorem IsM.fr {W W1 : World} {g : Nat} {xs : List ((Int × Int) × Int)} {S : Nat → Prop} (h : IsM W g xs) (k : Fr W W1 S) (hs : ¬ S g) : IsM W1 g xs := by
  obtain ⟨es, clock, h1, h2⟩ := h
  exact ⟨es, clock, (k.blk g (blk_lt h1) hs).trans h1, h2⟩
theorem ent_mem {es : Array MapEntry} {xs : List ((Int × Int) × Int)} (h : es.toList.map (fun e => (e.key, e.val)) = xs.map (fun x => (keyV x.1, Value.int .i64 x.2))) {e : MapEntry} (he : e ∈ es.toList) : ∃ x ∈ xs, e.key = keyV x.1 ∧ e.val = .int .i64 x.2 := by
  have h1 : (e.key, e.val) ∈ xs.map (fun x => (keyV x.1, Value.int .i64 x.2)) := by rw [← h]; exact List.mem_map.2 ⟨e, he, rfl⟩
  obtain ⟨x, hx, hxe⟩ := List.mem_map.1 h1
  injection hxe with h2 h3
  exact ⟨x, hx, h2.symm, h3.symm⟩
theorem mem_ent {es : Array MapEntry} {xs : List ((Int × Int) × Int)} (h : es.toList.map (fun e => (e.key, e.val)) = xs.map (fun x => (keyV x.1, Value.int .i64 x.2))) {x : (Int × Int) × Int} (hx : x ∈ xs) : ∃ e ∈ es.toList, e.key = keyV x.1 := by
  have h1 : (keyV x.1, Value.int .i64 x.2) ∈ es.toList.map (fun e => (e.key, e.val)) := by rw [h]; exact List.mem_map.2 ⟨x, hx, rfl⟩
  obtain ⟨e, he, hxe⟩ := List.mem_map.1 h1
  injection hxe with h2 h3
  exact ⟨e, he, h2⟩
theorem keys_of {es : Array MapEntry} {xs : List ((Int × Int) × Int)} (h : es.toList.map (fun e => (e.key, e.val)) = xs.map (fun x => (keyV x.1, Value.int .i64 x.2))) (hk : ∀ x ∈ xs, okKey x.1) : ∀ e ∈ es.toList, ∃ l, keyOf Try.prog 95 e.key = some l := by
  intro e he
  obtain ⟨x, hx, h1, h2⟩ := ent_mem h he
  obtain ⟨l, hl⟩ := keyOf95 x.1.1 x.1.2 (hk x hx).1 (hk x hx).2
  exact ⟨l, by rw [h1]; exact hl⟩
theorem zero3 (w : World) : (zeroValue 3).run Try.prog w = .ok (.int .i64 0) w := by kernel_rfl
theorem lookup_hit {W : World} {g : Nat} {xs : List ((Int × Int) × Int)} (h : IsM W g xs) (k : Int × Int) (v : Int) (hk : okKey k) (hm : (k, v) ∈ xs) (hu : ∀ x ∈ xs, x.1 = k → x.2 = v) :
    (Instr.lookup 91 (.map (some g)) (keyV k) true).run Try.prog W = .ok (.tuple #[.int .i64 v, .bool true]) W := by
  obtain ⟨es, clock, hb, he, hks⟩ := h
  obtain ⟨l, hl⟩ := keyOf95 k.1 k.2 hk.1 hk.2
  have hl' : keyOf Try.prog 95 (keyV k) = some l := hl
  rcases law95.find W hl' es.toList (keys_of he hks) with ⟨h1, h2⟩ | ⟨j, e0, h1, h2, h3⟩
  · obtain ⟨e, hem, hek⟩ := mem_ent he hm
    exact absurd hek (h2 e hem)
  · obtain ⟨x, hx, h4, h5⟩ := ent_mem he (List.mem_of_getElem? h2)
    have h6 : x.1 = k := keyV_inj (h4.symm.trans h3)
    rw [hu x hx h6] at h5
    simp [Instr.lookup, run_underlying Try.underlying91, MapKept.run_getObj_map hb, law95.check W _ hl', h1, h5]
theorem lookup_miss {W : World} {g : Nat} {xs : List ((Int × Int) × Int)} (h : IsM W g xs) (k : Int × Int) (hk : okKey k) (hm : ∀ x ∈ xs, x.1 ≠ k) :
    (Instr.lookup 91 (.map (some g)) (keyV k) true).run Try.prog W = .ok (.tuple #[.int .i64 0, .bool false]) W := by
  obtain ⟨es, clock, hb, he, hks⟩ := h
  obtain ⟨l, hl⟩ := keyOf95 k.1 k.2 hk.1 hk.2
  have hl' : keyOf Try.prog 95 (keyV k) = some l := hl
  rcases law95.find W hl' es.toList (keys_of he hks) with ⟨h1, h2⟩ | ⟨j, e0, h1, h2, h3⟩
  · simp [Instr.lookup, run_underlying Try.underlying91, MapKept.run_getObj_map hb, law95.check W _ hl', h1]
  · obtain ⟨x, hx, h4, h5⟩ := ent_mem he (List.mem_of_getElem? h2)
    exact absurd (keyV_inj (h4.symm.trans h3)) (hm x hx)
theorem update_new {W : World} {g : Nat} {xs : List ((Int × Int) × Int)} (h : IsM W g xs) (k : Int × Int) (v : Int) (hk : okKey k) (hm : ∀ x ∈ xs, x.1 ≠ k) :
    ∃ W', (Instr.mapUpdate 91 (.map (some g)) (keyV k) (.int .i64 v)).run Try.prog W = .ok () W' ∧ IsM W' g (xs ++ [(k, v)]) ∧ Fr W W' (fun i => i = g) := by
  obtain ⟨es, clock, hb, he, hks⟩ := h
  obtain ⟨l, hl⟩ := keyOf95 k.1 k.2 hk.1 hk.2
  have hl' : keyOf Try.prog 95 (keyV k) = some l := hl
  rcases law95.find W hl' es.toList (keys_of he hks) with ⟨h1, h2⟩ | ⟨j, e0, h1, h2, h3⟩
  · refine ⟨ChangeMaps.setBlock W g (.map (es.push ⟨keyV k, .int .i64 v, clock⟩) (clock + 1)), ?_, ?_, ?_⟩
    · simp [Instr.mapUpdate, run_underlying Try.underlying91, MapKept.run_getObj_map hb, law95.check W false hl', h1, MapKept.run_setObj_map _ hb, Result.andThen, ChangeMaps.setBlock]
    · refine ⟨es.push ⟨keyV k, .int .i64 v, clock⟩, clock + 1, ?_, ?_, ?_⟩
      · exact ChangeMaps.heap_setBlock_same hb _
      · simp [he]
      · intro x hx
        rcases List.mem_append.1 hx with h | h
        · exact hks x h
        · rw [List.mem_singleton.1 h]; exact hk
    · refine ⟨rfl, rfl, rfl, ?_, ?_⟩
      · simp [ChangeMaps.setBlock]
      · intro i hi hn
        exact ChangeMaps.heap_setBlock_other hb _ hn
  · obtain ⟨x, hx, h4, h5⟩ := ent_mem he (List.mem_of_getElem? h2)
    exact absurd (keyV_inj (h4.symm.trans h3)) (hm x hx)
end Go.Proofs.Ytihgekpijplfiaa.Mp
