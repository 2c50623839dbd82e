/- Frames: which blocks a call may have touched. No condition. -/
import Derived.Test.YtihgekpijplfiaaWb
namespace Go.Proofs.Ytihgekpijplfiaa.Fr
set_option linter.unusedVariables false
open Go.RowKit Go.Proofs.YtihgekpijplfiaaW.PrintWords Go.Proofs.YtihgekpijplfiaaW.PrintLast Go.Proofs.YtihgekpijplfiaaW.PrintMore Go.Proofs.Ytihgekpijplfiaa.Wr
/-- W' is W but for the blocks of S, and new ones. -/
structure Fr (W W' : World) (S : Nat → Prop) : Prop where
  os : W'.os = W.os
  tape : W'.tape = W.tape
  output : W'.output = W.output
  size : W.heap.size ≤ W'.heap.size
  blk : ∀ k, k < W.heap.size → ¬ S k → W'.heap[k]? = W.heap[k]?
/-- No block. -/
def No (_ : Nat) : Prop := False
theorem Fr.refl (W : World) (S : Nat → Prop) : Fr W W S := ⟨rfl, rfl, rfl, Nat.le_refl _, fun _ _ _ => rfl⟩
theorem Fr.trans {W W1 W2 : World} {S S1 : Nat → Prop} (h : Fr W W1 S) (k : Fr W1 W2 S1) (hs : ∀ i, S1 i → S i ∨ W.heap.size ≤ i) : Fr W W2 S :=
  ⟨k.os.trans h.os, k.tape.trans h.tape, k.output.trans h.output, Nat.le_trans h.size k.size, fun i hi hn => by
    rw [k.blk i (Nat.lt_of_lt_of_le hi h.size) (fun hw => by rcases hs i hw with h1 | h1; exact hn h1; omega), h.blk i hi hn]⟩
theorem Fr.then_ {W W1 W2 : World} {S : Nat → Prop} (h : Fr W W1 S) (k : Fr W1 W2 S) : Fr W W2 S := h.trans k (fun _ h => .inl h)
theorem Fr.mono {W W1 : World} {S S1 : Nat → Prop} (h : Fr W W1 S) (hs : ∀ i, S i → S1 i) : Fr W W1 S1 := ⟨h.os, h.tape, h.output, h.size, fun i hi hn => h.blk i hi (fun e => hn (hs i e))⟩
theorem Fr.of_below {W W1 : World} (h : Below W.heap.size W W1) (S : Nat → Prop) : Fr W W1 S := ⟨h.os, h.tape, h.output, h.size, fun i hi _ => h.block i hi⟩
theorem Fr.below {b : Nat} {w W W1 : World} {S : Nat → Prop} (h : Below b w W) (k : Fr W W1 S) (hs : ∀ i, S i → b ≤ i) (hb : b ≤ W.heap.size) : Below b w W1 :=
  ⟨k.os.trans h.os, k.tape.trans h.tape, k.output.trans h.output, Nat.le_trans h.size k.size, fun i hi => by
    rw [k.blk i (by omega) (fun hw => by have := hs i hw; omega), h.block i hi]⟩
theorem Fr.drew {W W1 : World} {S : Nat → Prop} (h : Fr W W1 S) : Fr W W1.drew S := ⟨h.os, h.tape, h.output, h.size, h.blk⟩
theorem Fr.drewN {W W1 : World} {S : Nat → Prop} (h : Fr W W1 S) (n : Nat) : Fr W (W1.drewN n) S := ⟨h.os, h.tape, h.output, h.size, h.blk⟩
theorem Fr.undrew {W W1 : World} {S : Nat → Prop} (h : Fr W.drew W1 S) : Fr W W1 S := ⟨h.os, h.tape, h.output, h.size, h.blk⟩
theorem Fr.undrewN {W W1 : World} {S : Nat → Prop} {n : Nat} (h : Fr (W.drewN n) W1 S) : Fr W W1 S := ⟨h.os, h.tape, h.output, h.size, h.blk⟩
theorem Fr.alloc {W W1 : World} {S : Nat → Prop} (h : Fr W W1 S) (o : Obj) : Fr W (W1.alloc o) S := h.trans (Fr.of_below (below_alloc (Below.refl _ _) o) No) (fun _ e => e.elim)
theorem Fr.set {W W1 : World} {S : Nat → Prop} (h : Fr W W1 S) {p : Addr} (hp : S p.block) (u : Value) : Fr W (W1.setCell p u) S :=
  h.trans (S1 := fun i => i = p.block) ⟨rfl, rfl, rfl, by simp [World.setCell], fun i hi hn => Below.heap_setCell W1 p u i hn⟩ (fun i e => .inl (by rw [e]; exact hp))
theorem Fr.setg {W W1 : World} {g : Nat} (h : Fr W W1 (fun i => i = g)) (j : Nat) (u : Value) : Fr W (W1.setCell ⟨g, j, none⟩ u) (fun i => i = g) := h.set (show (⟨g, j, none⟩ : Addr).block = g from rfl) u
theorem Fr.of_wstep {W W1 : World} {g : Nat} (h : WStep W W1 g) : Fr W W1 (WOwn W g) := ⟨h.os, h.tape, h.output, h.kept.1, h.kept.2⟩
theorem Fr.cell {W W1 : World} {S : Nat → Prop} (h : Fr W W1 S) {ad : Addr} {v : Value} (hc : W.cell? ad = some v) (hs : ¬ S ad.block) : W1.cell? ad = some v := by
  have hlt := World.block_lt_of_cell? W _ hc
  unfold World.cell? at hc ⊢
  rw [h.blk _ hlt hs]
  exact hc
/-- A row that one owns, behind a call that touches none of its blocks. -/
theorem R_fr {α : Type} {d : Kd α} {e base : Nat} {ok : Nat → Prop} {v : Value} {xs : List α} {W W1 : World} {S : Nat → Prop} (h : d.R e W base ok v xs) (hE : d.E = []) (k : Fr W W1 S) (hs : ∀ i, v.ownBlock = some i → ¬ S i) : d.R e W1 base ok v xs := by
  refine Kd.R_mono (Kd.R_move (Kd.R_tight hE h) (fun i hi => k.blk i ?_ (hs i hi.symm))) (fun i hi => h.1 i hi.symm)
  exact Kd.R_lt h i hi.symm
theorem R_add_ne {α : Type} {d : Kd α} {e base n c q g : Nat} {ok : Nat → Prop} {ad : Addr} {xs : List α} {W : World} (h : d.R e W base ok (.slice (some ad) n c) xs) (hs : ∀ k, (Value.slice (some ad) n c).ownBlock = some k → k ≠ g) : ¬ (ad.add q).block = g := fun e => by
  obtain ⟨g0, e0⟩ := Kd.R_head h
  exact hs g0 (by rw [e0]; rfl) (by rw [e0, add_plain] at e; exact e)
end Go.Proofs.Ytihgekpijplfiaa.Fr
