/- A machine as the program has it: a value behind an interface, what its methods are, and what they do, against a machine in plain words. -/
import Derived.Test.YtjnebkoohimgjaaDoorRows
import Derived.Test.YtjnebkoohimgjaaDoorPlain
namespace Go.Proofs.YtjnebkoohimgjaaDoor
open Go.RowKit

theorem at_no {w W : World} {a : Option Addr} {vs : List Value} (h : At w a vs) (f : Fr No w W) : At W a vs := h.fr f (fun _ _ _ _ _ _ x => x)
/-- Pieces that come out: where their bytes lie, the capacity, the bytes. -/
abbrev Piece := Option Addr × Nat × List UInt8
/-- The cells of pieces, all to output 0. -/
def pcells : List Piece → List Value
  | [] => []
  | p :: ps => .int .i64 0 :: .slice p.1 p.2.2.length p.2.1 :: pcells ps
theorem pcells_length : ∀ ps, (pcells ps).length = ps.length * 2
  | [] => rfl
  | p :: ps => by simp [pcells, pcells_length ps]; omega
theorem pcells_app : ∀ a b, pcells (a ++ b) = pcells a ++ pcells b
  | [], b => rfl
  | p :: a, b => by simp [pcells, pcells_app a b]
theorem pcells_get : ∀ (ps : List Piece) (i : Nat) (h : i < ps.length), (pcells ps)[i * 2]? = some (.int .i64 0) ∧ (pcells ps)[i * 2 + 1]? = some (.slice ps[i].1 ps[i].2.2.length ps[i].2.1)
  | p :: ps, 0, _ => by simp [pcells]
  | p :: ps, i + 1, h => by
    have := pcells_get ps i (by simpa using h)
    have e1 : (i + 1) * 2 = i * 2 + 1 + 1 := by omega
    have e2 : (i + 1) * 2 + 1 = i * 2 + 1 + 1 + 1 := by omega
    rw [e1]
    simpa [pcells] using this
/-- An answer: pieces l, all in blocks from B on. -/
structure Outs (w : World) (B : Nat) (a : Option Addr) (ps : List Piece) : Prop where
  cells : At w a (pcells ps)
  new : ∀ g off, a = some ⟨g, off, none⟩ → B ≤ g
  bytes : ∀ p ∈ ps, At w p.1 (p.2.2.map bv) ∧ ∀ g off, p.1 = some ⟨g, off, none⟩ → B ≤ g
def bytesOf (ps : List Piece) : List (List UInt8) := ps.map (·.2.2)
theorem Outs.fr {S : Nat → Nat → Prop} {w w' : World} {B : Nat} {a : Option Addr} {ps : List Piece} (h : Outs w B a ps) (k : Fr S w w') (hS : ∀ b o, B ≤ b → b < w.heap.size → ¬ S b o) : Outs w' B a ps :=
  ⟨h.cells.fr k (fun g off e hl _ _ => hS g _ (h.new g off e) hl), h.new, fun p hp => ⟨(h.bytes p hp).1.fr k (fun g off e hl _ _ => hS g _ ((h.bytes p hp).2 g off e) hl), (h.bytes p hp).2⟩⟩

/-- The methods of a value of dynamic type U. -/
structure Meth where
  U : TypeId
  x : Value
  kN : Nat
  rN : Value
  kH : Nat
  rH : Value
  kF : Nat
  rF : Value
  kE : Nat
  rE : Value
  kM : Nat
  rM : Value
  /-- Ahead of this block all must stay as it is. -/
  B : Nat
/-- What the program says of them. -/
structure Meth.Ok (m : Meth) : Prop where
  mN : ∀ w : World, (method 294 m.U m.x "Need").run Tryd.prog w = .ok (m.kN, m.rN) w
  mH : ∀ w : World, (method 294 m.U m.x "Held").run Tryd.prog w = .ok (m.kH, m.rH) w
  mF : ∀ w : World, (method 294 m.U m.x "Feed").run Tryd.prog w = .ok (m.kF, m.rF) w
  mE : ∀ w : World, (method 294 m.U m.x "End").run Tryd.prog w = .ok (m.kE, m.rE) w
  mM : ∀ w : World, (method 294 m.U m.x "More").run Tryd.prog w = .ok (m.kM, m.rM) w
  cN : ∀ (w : World) (xs : Array Value), (callFunc m.kN xs).run Tryd.prog w = .ok (.enter m.kN xs) w
  cH : ∀ (w : World) (xs : Array Value), (callFunc m.kH xs).run Tryd.prog w = .ok (.enter m.kH xs) w
  cF : ∀ (w : World) (xs : Array Value), (callFunc m.kF xs).run Tryd.prog w = .ok (.enter m.kF xs) w
  cE : ∀ (w : World) (xs : Array Value), (callFunc m.kE xs).run Tryd.prog w = .ok (.enter m.kE xs) w
  cM : ∀ (w : World) (xs : Array Value), (callFunc m.kM xs).run Tryd.prog w = .ok (.enter m.kM xs) w

section
variable {σ : Type} (M : Mod σ) (m : Meth) (R : World → (Nat → Prop) → σ → Prop)
/-- The cells of the blocks F. -/
def InF (F : Nat → Prop) : Nat → Nat → Prop := fun b _ => F b
/-- What an answer leaves: the pieces, the error, the machine. -/
def AnsPost (F : Nat → Prop) (w : World) (r : σ × List (List UInt8) × Int) (e : Ending) (w' : World) : Prop :=
  ∃ a ps c F', e = .returned (.tuple #[.slice a ps.length c, .int .i64 r.2.2]) ∧ bytesOf ps = r.2.1 ∧ OutOk r.2.1 ∧ Outs w' w.heap.size a ps ∧ R w' F' r.1 ∧ Fr (InF F) w w' ∧ (∀ b, F' b → F b ∨ w.heap.size ≤ b)
/-- A call that is refused: an error, no pieces, and the machine as it was. -/
def NoPost (F : Nat → Prop) (w : World) (s : σ) (e0 : Int) (e : Ending) (w' : World) : Prop :=
  ∃ a c, e = .returned (.tuple #[.slice a 0 c, .int .i64 e0]) ∧ R w' F s ∧ Fr (InF F) w w'
def IPostR (F : Nat → Prop) (w : World) (s : σ) (i : Int) (e : Ending) (w' : World) : Prop := e = .returned (.int .i64 i) ∧ R w' F s ∧ Fr (InF F) w w'
/-- The machine lies in memory as R says, in blocks F; its methods do what M says. -/
structure Mach : Prop where
  ok : m.Ok
  fr : ∀ {S : Nat → Nat → Prop} {w w' : World} {F : Nat → Prop} {s : σ}, R w F s → Fr S w w' → (∀ b o, F b → ¬ S b o) → (∀ b o, b < m.B → ¬ S b o) → R w' F s
  base : ∀ {w : World} {F : Nat → Prop} {s : σ}, R w F s → m.B ≤ w.heap.size
  lt : ∀ {w : World} {F : Nat → Prop} {s : σ}, R w F s → ∀ b, F b → b < w.heap.size
  need3 : ∀ {w : World} {F : Nat → Prop} {s : σ}, R w F s → M.need s = 0 ∨ M.need s = -1 ∨ M.need s = -2
  need : ∀ {w : World} {F : Nat → Prop} {s : σ}, R w F s → Calls Tryd.prog m.kN #[m.rN] w (IPostR R F w s (M.need s))
  held : ∀ {w : World} {F : Nat → Prop} {s : σ}, R w F s → Calls Tryd.prog m.kH #[m.rH] w (IPostR R F w s (M.held s))
  heldB : ∀ {w : World} {F : Nat → Prop} {s : σ}, R w F s → 0 ≤ M.held s ∧ M.held s ≤ 1000000
  feed : ∀ {w : World} {F : Nat → Prop} {s : σ}, R w F s → M.need s = 0 → ∀ (a : Option Addr) (c : List UInt8) (cap : Nat), At w a (c.map bv) → (∀ g off, a = some ⟨g, off, none⟩ → ¬ F g) → 1 ≤ c.length → c.length ≤ 32 →
    Calls Tryd.prog m.kF #[m.rF, .int .i64 0, .slice a c.length cap] w (AnsPost R F w (M.feed s c))
  fin : ∀ {w : World} {F : Nat → Prop} {s : σ}, R w F s → M.need s = 0 → Calls Tryd.prog m.kE #[m.rE, .int .i64 0] w (AnsPost R F w (M.fin s))
  more : ∀ {w : World} {F : Nat → Prop} {s : σ}, R w F s → M.need s = -2 → Calls Tryd.prog m.kM #[m.rM] w (AnsPost R F w (M.more s))
/-- What a call is answered that is not due. -/
def notDue (n : Int) : Int := if n = -1 then 4 else 1
/-- .. and it refuses what is not due. -/
structure Refuses : Prop where
  feed : ∀ {w : World} {F : Nat → Prop} {s : σ}, R w F s → ∀ (p : Int) (a : Option Addr) (c : List UInt8) (cap : Nat), At w a (c.map bv) → c.length ≤ 100000 → p ≠ M.need s ∨ c.length = 0 ∨ 32 < c.length →
    Calls Tryd.prog m.kF #[m.rF, .int .i64 p, .slice a c.length cap] w (NoPost R F w s (notDue (M.need s)))
  fin : ∀ {w : World} {F : Nat → Prop} {s : σ}, R w F s → ∀ (p : Int), p ≠ M.need s → Calls Tryd.prog m.kE #[m.rE, .int .i64 p] w (NoPost R F w s (notDue (M.need s)))
  more : ∀ {w : World} {F : Nat → Prop} {s : σ}, R w F s → M.need s ≠ -2 → Calls Tryd.prog m.kM #[m.rM] w (NoPost R F w s (notDue (M.need s)))
end
end Go.Proofs.YtjnebkoohimgjaaDoor
