/- Rows of structs: their cells, one behind the other. -/
import Derived.Test.YtljldkknopmfhaaBase
namespace Go.Proofs.Ytljldkknopmfhaa
open Go.RowKit

theorem flat_length {α : Type} {f : α → List Value} {k : Nat} (hf : ∀ x, (f x).length = k) : ∀ l : List α, (l.flatMap f).length = l.length * k
  | [] => by simp
  | x :: l => by
    rw [List.flatMap_cons, List.length_append, hf x, flat_length hf l, List.length_cons, Nat.add_mul]; omega
theorem flat_get {α : Type} {f : α → List Value} {k : Nat} (hf : ∀ x, (f x).length = k) : ∀ (l : List α) (i j : Nat) (hi : i < l.length) (_ : j < k), (l.flatMap f)[i * k + j]? = (f l[i])[j]?
  | [], i, j, hi, _ => by simp at hi
  | x :: l, 0, j, _, hj => by
    rw [List.flatMap_cons, List.getElem?_append_left (by rw [hf]; omega)]; simp
  | x :: l, i + 1, j, hi, hj => by
    have ih := flat_get hf l i j (by simpa using hi) hj
    rw [List.flatMap_cons, List.getElem?_append_right (by rw [hf, Nat.add_mul]; omega), hf, List.getElem_cons_succ, ← ih]
    congr 1
    rw [Nat.add_mul]; omega
/-- A cell of a row of structs. -/
theorem Row.flat {α : Type} {f : α → List Value} {k : Nat} {w : World} {g off : Nat} {l : List α} (h : Row w g off (l.flatMap f)) (hf : ∀ x, (f x).length = k) {i j : Nat} (hi : i < l.length) (hj : j < k) {v : Value} (hv : (f l[i])[j]? = some v) :
    w.cell? ⟨g, off + i * k + j, none⟩ = some v := by
  have := h.get (i * k + j) v (by rw [flat_get hf l i j hi hj]; exact hv)
  rwa [← Nat.add_assoc] at this
theorem At.flat {α : Type} {f : α → List Value} {k : Nat} {w : World} {a : Option Addr} {l : List α} (h : At w a (l.flatMap f)) (hf : ∀ x, (f x).length = k) (hk : 0 < k) (hl : 0 < l.length) : ∃ g off, a = some ⟨g, off, none⟩ ∧ Row w g off (l.flatMap f) :=
  h (by rw [flat_length hf]; exact Nat.mul_pos hl hk)
end Go.Proofs.Ytljldkknopmfhaa
