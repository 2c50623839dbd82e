/- Small words of mine over the print's words: a literal row reads as its elements. No condition beyond lengths. -/
import Derived.Test.YtihgekpijplfiaaWMore
import Derived.Test.YtihgekpijplfiaaWApart
import Derived.Lib.SlBytesConst
namespace Go.Proofs.Ytihgekpijplfiaa.Kit
open Go.RowKit Go.Proofs.YtihgekpijplfiaaW.PrintWords Go.Proofs.YtihgekpijplfiaaW.PrintLast Go.Proofs.YtihgekpijplfiaaW.PrintMore
theorem flat_get {α : Type} (f : α → List Value) (sz : Nat) : ∀ (xs : List α), (∀ x ∈ xs, (f x).length = sz) → ∀ (j : Nat) (p : α) (i : Nat) (u : Value), xs[j]? = some p → (f p)[i]? = some u → (xs.flatMap f)[j * sz + i]? = some u
  | [], _, j, p, i, u, hj, _ => by simp at hj
  | x :: xs, hl, 0, p, i, u, hj, hu => by
    simp at hj; subst hj
    have := (List.getElem?_eq_some_iff.1 hu).1
    rw [List.flatMap_cons, Nat.zero_mul, Nat.zero_add, List.getElem?_append_left this, hu]
  | x :: xs, hl, j + 1, p, i, u, hj, hu => by
    have hx := hl x (List.mem_cons_self ..)
    rw [List.flatMap_cons, List.getElem?_append_right (by rw [hx, Nat.add_mul]; omega), hx, show (j + 1) * sz + i - sz = j * sz + i from by rw [Nat.add_mul]; omega]
    exact flat_get f sz xs (fun y hy => hl y (List.mem_cons_of_mem _ hy)) j p i u (by simpa using hj) hu
/-- A literal row reads as its elements, whatever mark it bears. -/
theorem C_row {α : Type} (d : Kd α) (f : α → List Value) (hf : ∀ w x, d.K w x (f x)) (w : World) (e : TypeId) (m : Nat × Nat) (xs : List α) (hm : xs.length ≤ 9223372036854775807) :
    Kd.C d (w.alloc (.cells (xs.flatMap f).toArray e m)) (some ⟨w.heap.size, 0, none⟩) xs.length xs := by
  refine ⟨rfl, hm, fun _ => ⟨_, rfl, fun j p hj => ⟨f p, d.K_len (hf w p), hf _ p, fun i u hu => ?_⟩⟩⟩
  have hb : (w.alloc (.cells (xs.flatMap f).toArray e m)).heap[w.heap.size]? = some (.cells (xs.flatMap f).toArray e m) := heap_alloc_new w _
  rw [add_plain]
  simp only [World.cell?, hb]
  simpa using flat_get f d.sz xs (fun x _ => d.K_len (hf w x)) j p i u hj hu

theorem bne_f {a b : Int} (h : a = b) : (a != b) = false := by simp [h]
end Go.Proofs.Ytihgekpijplfiaa.Kit
