/- Rows of structs, and graphs, as arguments of a law. -/
import Derived.Test.YtljldkknopmfhaaLift
import Derived.Test.YtljldkknopmfhaaLiftP
import Derived.Test.YtljldkknopmfhaaFlat
import Derived.Test.YtljldkknopmfhaaGrPl
import Derived.Lib.SmallJoins
import Derived.Deep.Strs
namespace Go.Proofs.Ytljldkknopmfhaa
open Go.ChangeShapes Go.WideShapes Go.ChangeAt Go.RowKit Go.Joins

section
variable {H : Type} {enc : TypeId × Value → H} {w : World} {base : Nat} {spare : Nat → Bool} {held : Bool}
theorem flat_of_trod {α : Type} {t e : TypeId} (f : α → List Value) (k : Nat) (hk : 0 < k) (hf : ∀ x, (f x).length = k) (Q : α → Prop) (ht : Try.prog.underlying t = some (.slice e)) (hc : Try.prog.cellsOf e = k)
    (hel : ∀ {m : Nat} {cs : List Value} {y : DataW H × List MemPlace}, DataW.trod enc Try.prog w base spare held m e cs = some y → ∃ s, cs = f s ∧ Q s) {fuel : Nat} {v : Value} {x : DataW H × List MemPlace}
    (h : DataW.trod enc Try.prog w base spare held fuel t [v] = some x) : ∃ (a : Option Addr) (ss : List α) (c : Nat), v = .slice a ss.length c ∧ At w a (ss.flatMap f) ∧ ∀ s ∈ ss, Q s := by
  rcases Deep.open_slice ht h with ⟨hcs, _⟩ | ⟨a, len, cap, m, n, D, Pl, hcs, _, hl, hm, hmm, _, hx⟩
  · injection hcs with hcs; subst hcs; exact ⟨none, [], 0, rfl, At.nil _ _, by simp⟩
  · injection hcs with hcs; subst hcs
    have hmz : len ≤ m := by rw [hmm]; split <;> omega
    obtain ⟨ss, h1, h2⟩ := list_of len (fun i s => (∀ j, j < k → w.cell? ((a.add (i * k)).add j) = (f s)[j]?) ∧ Q s) fun i hi => by
      obtain ⟨cs', e1, e2⟩ := hx i (by omega)
      rw [hc] at e1
      obtain ⟨s, rfl, k1⟩ := hel e2
      exact ⟨s, fun j hj => (World.cells?_some e1).2.2 j hj, k1⟩
    refine ⟨some a, ss, cap, by rw [h1], fun hp => ?_, fun s hs => ?_⟩
    · rw [flat_length hf, h1] at hp
      have hlen : 0 < len := by
        rcases Nat.eq_zero_or_pos len with h0 | h0
        · subst h0; simp at hp
        · exact h0
      obtain ⟨g, o, sp⟩ := a
      have h0 := (h2 0 (by omega)).1 0 hk
      have hl0 : 0 < (f (ss[0]'(by omega))).length := by rw [hf]; exact hk
      obtain ⟨v0, hv0⟩ : ∃ v0, (f (ss[0]'(by omega)))[0]? = some v0 := ⟨_, List.getElem?_eq_getElem hl0⟩
      rw [hv0] at h0
      have hsp : sp = none := by simpa [Addr.add] using World.cell?_spot h0
      subst hsp
      refine ⟨g, o, rfl, fun q hq => ?_⟩
      rw [flat_length hf, h1] at hq
      have hi : q / k < ss.length := by rw [h1]; exact Nat.div_lt_of_lt_mul (by rw [Nat.mul_comm]; exact hq)
      have hj : q % k < k := Nat.mod_lt _ hk
      have h3 := (h2 (q / k) hi).1 (q % k) hj
      rw [add_off, add_off] at h3
      have hq2 : q / k * k + q % k = q := Nat.div_add_mod' q k
      have h4 := flat_get hf ss (q / k) (q % k) hi hj
      rw [hq2] at h4
      rw [Nat.add_assoc, hq2] at h3
      rw [h3, List.getD_eq_getElem?_getD, h4]
      have hlq : q % k < (f (ss[q / k])).length := by rw [hf]; exact hj
      obtain ⟨vv, hvv⟩ : ∃ vv, (f (ss[q / k]))[q % k]? = some vv := ⟨_, List.getElem?_eq_getElem hlq⟩
      rw [hvv]; rfl
    · obtain ⟨i, hi, rfl⟩ := List.getElem_of_mem hs
      exact (h2 i hi).2

/-- A script's row. -/
def failCells (x : Int × Int) : List Value := [.int .i64 x.1, .int .i64 x.2]
def IsFails (w : World) (v : Value) (S : List (Int × Int)) : Prop := ∃ a c, v = .slice a S.length c ∧ At w a (S.flatMap failCells) ∧ ∀ x ∈ S, (Lit.int .i64 x.1).wf = true ∧ (Lit.int .i64 x.2).wf = true
set_option maxRecDepth 100000 in
theorem isFails_of_trod {fuel : Nat} {v : Value} {x : DataW H × List MemPlace} (h : DataW.trod enc Try.prog w base spare held fuel 22 [v] = some x) : ∃ S, IsFails w v S := by
  obtain ⟨a, ss, c, rfl, h1, h2⟩ := flat_of_trod failCells 2 (by decide) (fun _ => rfl) (fun x => (Lit.int .i64 x.1).wf = true ∧ (Lit.int .i64 x.2).wf = true) Try.underlying22 (by kernel_rfl) (fun {m cs y} h => by
    obtain ⟨y0, y1, n, _, hl, h0, h1⟩ := trod_struct2 Try.underlying76 h
    have hc : cs.length = 2 := hl.trans (by kernel_rfl)
    match cs, hc with
    | [c0, c1], _ =>
      have h0' : DataW.trod enc Try.prog w base spare held n 3 [c0] = some y0 := h0
      have h1' : DataW.trod enc Try.prog w base spare held n 3 [c1] = some y1 := h1
      obtain ⟨n0, e0, _, w0⟩ := DataW.trod_int Try.underlying3 h0'
      obtain ⟨n1, e1, _, w1⟩ := DataW.trod_int Try.underlying3 h1'
      injection e0 with e0; injection e1 with e1; subst e0; subst e1
      exact ⟨(n0, n1), rfl, w0, w1⟩) h
  exact ⟨ss, a, c, rfl, h1, h2⟩
/-- A call of a disk. -/
structure Cl where
  what : Int
  no : Int
  pos : Int
  most : Int
  a : Option Addr
  c : Nat
  b : List UInt8
def Cl.cells (x : Cl) : List Value := [.int .i64 x.what, .int .i64 x.no, .int .i64 x.pos, .int .i64 x.most, .slice x.a x.b.length x.c]
def IsCalls (w : World) (v : Value) (l : List Cl) : Prop := ∃ a c, v = .slice a l.length c ∧ At w a (l.flatMap Cl.cells) ∧ ∀ x ∈ l, At w x.a (x.b.map bv) ∧ x.b.length ≤ x.c ∧
  (Lit.int .i64 x.what).wf = true ∧ (Lit.int .i64 x.no).wf = true ∧ (Lit.int .i64 x.pos).wf = true ∧ (Lit.int .i64 x.most).wf = true
set_option maxRecDepth 100000 in
theorem isCalls_of_trod {fuel : Nat} {v : Value} {x : DataW H × List MemPlace} (h : DataW.trod enc Try.prog w base spare held fuel 23 [v] = some x) : ∃ l, IsCalls w v l := by
  obtain ⟨a, ss, c, rfl, h1, h2⟩ := flat_of_trod Cl.cells 5 (by decide) (fun _ => rfl) (fun x => At w x.a (x.b.map bv) ∧ x.b.length ≤ x.c ∧
      (Lit.int .i64 x.what).wf = true ∧ (Lit.int .i64 x.no).wf = true ∧ (Lit.int .i64 x.pos).wf = true ∧ (Lit.int .i64 x.most).wf = true) Try.underlying23 (by kernel_rfl) (fun {m cs y} h => by
    obtain ⟨xs, n, _, rfl, hl, hlen, hf⟩ := DataW.trod_struct Try.underlying31 h
    have hc : cs.length = 5 := hl.trans (by kernel_rfl)
    match xs, hlen, cs, hc with
    | [y0, y1, y2, y3, y4], _, [c0, c1, c2, c3, c4], _ =>
      have g0 : DataW.trod enc Try.prog w base spare held n 3 (List.take (Try.prog.cellsOf 3) [c0, c1, c2, c3, c4]) = some y0 := by simpa using hf 0 _ rfl
      have h0' : DataW.trod enc Try.prog w base spare held n 3 [c0] = some y0 := g0
      have g1 : DataW.trod enc Try.prog w base spare held n 3 (List.take (Try.prog.cellsOf 3) [c1, c2, c3, c4]) = some y1 := by simpa using hf 1 _ rfl
      have h1' : DataW.trod enc Try.prog w base spare held n 3 [c1] = some y1 := g1
      have g2 : DataW.trod enc Try.prog w base spare held n 3 (List.take (Try.prog.cellsOf 3) [c2, c3, c4]) = some y2 := by simpa using hf 2 _ rfl
      have h2' : DataW.trod enc Try.prog w base spare held n 3 [c2] = some y2 := g2
      have g3 : DataW.trod enc Try.prog w base spare held n 3 (List.take (Try.prog.cellsOf 3) [c3, c4]) = some y3 := by simpa using hf 3 _ rfl
      have h3' : DataW.trod enc Try.prog w base spare held n 3 [c3] = some y3 := g3
      have g4 : DataW.trod enc Try.prog w base spare held n 29 (List.take (Try.prog.cellsOf 29) [c4]) = some y4 := by simpa using hf 4 _ rfl
      have h4' : DataW.trod enc Try.prog w base spare held n 29 [c4] = some y4 := g4
      obtain ⟨n0, e0, _, w0⟩ := DataW.trod_int Try.underlying3 h0'
      obtain ⟨n1, e1, _, w1⟩ := DataW.trod_int Try.underlying3 h1'
      obtain ⟨n2, e2, _, w2⟩ := DataW.trod_int Try.underlying3 h2'
      obtain ⟨n3, e3, _, w3⟩ := DataW.trod_int Try.underlying3 h3'
      obtain ⟨l, a, c, rfl, hlc, _, hat, _⟩ := isB_of_trod Try.underlying29 Try.underlying5 (by kernel_rfl) h4'
      injection e0 with e0; injection e1 with e1; injection e2 with e2; injection e3 with e3
      subst e0; subst e1; subst e2; subst e3
      exact ⟨⟨n0, n1, n2, n3, a, c, l⟩, rfl, hat, hlc, w0, w1, w2, w3⟩) h
  exact ⟨ss, a, c, rfl, h1, h2⟩

/-- A stage's parameters, where they lie. -/
structure Sp where
  s : Stg
  aA : Option Addr
  cA : Nat
  aB : Option Addr
  cB : Nat
def Sp.cells (x : Sp) : List Value := [.int .i64 x.s.k, .int .i64 x.s.n, .slice x.aA x.s.A.length x.cA, .slice x.aB x.s.B.length x.cB]
def Dct.cells (x : Dct) : List Value := [.int .i64 x.frm, .int .i64 x.out, .int .i64 x.to, .int .i64 x.inn, .int .i64 x.cap]
def Sp.Ok (w : World) (x : Sp) : Prop := At w x.aA (x.s.A.map bv) ∧ At w x.aB (x.s.B.map bv) ∧ (Lit.int .i64 x.s.k).wf = true ∧ (Lit.int .i64 x.s.n).wf = true
def Dct.Ok (x : Dct) : Prop := (Lit.int .i64 x.frm).wf = true ∧ (Lit.int .i64 x.out).wf = true ∧ (Lit.int .i64 x.to).wf = true ∧ (Lit.int .i64 x.inn).wf = true ∧ (Lit.int .i64 x.cap).wf = true
/-- A graph's value, where its rows lie. -/
structure Gv where
  sp : List Sp
  du : List Dct
  sa : Option Addr
  sc : Nat
  da : Option Addr
  dc : Nat
def Gv.g (x : Gv) : Gr := ⟨x.sp.map Sp.s, x.du⟩
def Gv.val (x : Gv) : Value := .agg #[.slice x.sa x.sp.length x.sc, .slice x.da x.du.length x.dc]
structure Gv.Ok (w : World) (x : Gv) : Prop where
  st : At w x.sa (x.sp.flatMap Sp.cells)
  du : At w x.da (x.du.flatMap Dct.cells)
  sp : ∀ s ∈ x.sp, s.Ok w
  dc : ∀ d ∈ x.du, d.Ok
def IsGr (w : World) (v : Value) (x : Gv) : Prop := v = x.val ∧ x.Ok w
set_option maxRecDepth 100000 in
theorem isGr_of_trod {r : Reach} {b0 : Nat} {v : Value} {d : DataW H} {p : List MemPlace} (hv : Value.okWide Try.prog w r b0 63 v) (h : DataW.Trod enc Try.prog w base spare held 63 v d p) : ∃ x, IsGr w v x := by
  obtain ⟨v0, v1, y0, y1, n, rfl, _, _, h0, h1⟩ := open_agg2 Try.underlying63 (by kernel_rfl) (by kernel_rfl) hv h
  have h0' : DataW.trod enc Try.prog w base spare held n 60 [v0] = some y0 := h0
  have h1' : DataW.trod enc Try.prog w base spare held n 61 [v1] = some y1 := h1
  obtain ⟨a, ss, c, rfl, k1, k2⟩ := flat_of_trod Sp.cells 4 (by decide) (fun _ => rfl) (Sp.Ok w) Try.underlying60 (by kernel_rfl) (fun {m cs y} h => by
    obtain ⟨y0, y1, y2, y3, n, _, hl, h0, h1, h2, h3⟩ := trod_struct4 Try.underlying41 h
    have hc : cs.length = 4 := hl.trans (by kernel_rfl)
    match cs, hc with
    | [c0, c1, c2, c3], _ =>
      have h0' : DataW.trod enc Try.prog w base spare held n 3 [c0] = some y0 := h0
      have h1' : DataW.trod enc Try.prog w base spare held n 3 [c1] = some y1 := h1
      have h2' : DataW.trod enc Try.prog w base spare held n 29 [c2] = some y2 := h2
      have h3' : DataW.trod enc Try.prog w base spare held n 29 [c3] = some y3 := h3
      obtain ⟨n0, e0, _, w0⟩ := DataW.trod_int Try.underlying3 h0'
      obtain ⟨n1, e1, _, w1⟩ := DataW.trod_int Try.underlying3 h1'
      obtain ⟨A, aA, cA, rfl, _, _, a3, _⟩ := isB_of_trod Try.underlying29 Try.underlying5 (by kernel_rfl) h2'
      obtain ⟨B, aB, cB, rfl, _, _, b3, _⟩ := isB_of_trod Try.underlying29 Try.underlying5 (by kernel_rfl) h3'
      injection e0 with e0; injection e1 with e1; subst e0; subst e1
      exact ⟨⟨⟨n0, n1, A, B⟩, aA, cA, aB, cB⟩, rfl, a3, b3, w0, w1⟩) h0'
  obtain ⟨a', ds, c', rfl, j1, j2⟩ := flat_of_trod Dct.cells 5 (by decide) (fun _ => rfl) Dct.Ok Try.underlying61 (by kernel_rfl) (fun {m cs y} h => by
    obtain ⟨xs, n, _, rfl, hl, hlen, hf⟩ := DataW.trod_struct Try.underlying72 h
    have hc : cs.length = 5 := hl.trans (by kernel_rfl)
    match xs, hlen, cs, hc with
    | [y0, y1, y2, y3, y4], _, [c0, c1, c2, c3, c4], _ =>
      have g0 : DataW.trod enc Try.prog w base spare held n 3 (List.take (Try.prog.cellsOf 3) [c0, c1, c2, c3, c4]) = some y0 := by simpa using hf 0 _ rfl
      have h0' : DataW.trod enc Try.prog w base spare held n 3 [c0] = some y0 := g0
      have g1 : DataW.trod enc Try.prog w base spare held n 3 (List.take (Try.prog.cellsOf 3) [c1, c2, c3, c4]) = some y1 := by simpa using hf 1 _ rfl
      have h1' : DataW.trod enc Try.prog w base spare held n 3 [c1] = some y1 := g1
      have g2 : DataW.trod enc Try.prog w base spare held n 3 (List.take (Try.prog.cellsOf 3) [c2, c3, c4]) = some y2 := by simpa using hf 2 _ rfl
      have h2' : DataW.trod enc Try.prog w base spare held n 3 [c2] = some y2 := g2
      have g3 : DataW.trod enc Try.prog w base spare held n 3 (List.take (Try.prog.cellsOf 3) [c3, c4]) = some y3 := by simpa using hf 3 _ rfl
      have h3' : DataW.trod enc Try.prog w base spare held n 3 [c3] = some y3 := g3
      have g4 : DataW.trod enc Try.prog w base spare held n 3 (List.take (Try.prog.cellsOf 3) [c4]) = some y4 := by simpa using hf 4 _ rfl
      have h4' : DataW.trod enc Try.prog w base spare held n 3 [c4] = some y4 := g4
      obtain ⟨n0, e0, _, w0⟩ := DataW.trod_int Try.underlying3 h0'
      obtain ⟨n1, e1, _, w1⟩ := DataW.trod_int Try.underlying3 h1'
      obtain ⟨n2, e2, _, w2⟩ := DataW.trod_int Try.underlying3 h2'
      obtain ⟨n3, e3, _, w3⟩ := DataW.trod_int Try.underlying3 h3'
      obtain ⟨n4, e4, _, w4⟩ := DataW.trod_int Try.underlying3 h4'
      injection e0 with e0; injection e1 with e1; injection e2 with e2; injection e3 with e3; injection e4 with e4
      subst e0; subst e1; subst e2; subst e3; subst e4
      exact ⟨⟨n0, n1, n2, n3, n4⟩, rfl, w0, w1, w2, w3, w4⟩) h1'
  exact ⟨⟨ss, ds, a, c, a', c'⟩, rfl, k1, j1, k2, j2⟩
end
end Go.Proofs.Ytljldkknopmfhaa
