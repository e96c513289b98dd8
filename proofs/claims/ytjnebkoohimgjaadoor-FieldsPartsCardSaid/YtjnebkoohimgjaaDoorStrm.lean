/- Streams, as they lie in memory. -/
import Derived.Test.YtjnebkoohimgjaaDoorDrv
namespace Go.Proofs.YtjnebkoohimgjaaDoor
open Go.RowKit

/-- A stream, as it lies in memory. -/
structure Strm where
  a : Option Addr
  c : Nat
  b : List UInt8
  ended : Bool
  ec : Int
  es : Int
  ei : Int
def Strm.cells (s : Strm) : List Value := [.slice s.a s.b.length s.c, .bool s.ended, .int .i64 s.ec, .int .i64 s.es, .int .i64 s.ei]
def scells : List Strm → List Value
  | [] => []
  | s :: ss => s.cells ++ scells ss
theorem scells_length : ∀ ss, (scells ss).length = ss.length * 5
  | [] => rfl
  | s :: ss => by simp [scells, Strm.cells, scells_length ss]; omega
theorem scells_get : ∀ (ss : List Strm) (i j : Nat) (h : i < ss.length) (v : Value), (ss[i].cells)[j]? = some v → (scells ss)[i * 5 + j]? = some v
  | s :: ss, 0, j, _, v, hv => by
    have : j < s.cells.length := (List.getElem?_eq_some_iff.1 hv).1
    simp only [scells, Nat.zero_mul, Nat.zero_add]
    rw [List.getElem?_append_left this]; exact hv
  | s :: ss, i + 1, j, h, v, hv => by
    have e : (i + 1) * 5 + j = 5 + (i * 5 + j) := by omega
    rw [e]
    simp only [scells]
    rw [List.getElem?_append_right (by simp [Strm.cells])]
    have e2 : 5 + (i * 5 + j) - s.cells.length = i * 5 + j := by simp [Strm.cells]
    rw [e2]
    exact scells_get ss i j (by simpa using h) v hv
end Go.Proofs.YtjnebkoohimgjaaDoor
