/- Plain words on memory: bytes and strings in cells, frames, slices. Nothing of the program stands here. -/
import Derived.WalkKit
import Derived.WalkSpells
import Derived.Deep.QuietTactic
import Derived.BigQuiet
import Derived.StillTailTactics
import Derived.Laws.BytesArg
import Derived.Lib.Hide
import Derived.Deep.RegionLaw
import Derived.Lib.AppendStr
import Derived.Lib.SmallJoins
namespace Go.Proofs.Ytljldkknopmfhaa
open Go.RowKit Go

theorem size_mk (l : List UInt8) : (⟨l.toArray⟩ : ByteArray).size = l.length := rfl
theorem ne_off {b o o' : Nat} (h : o ≠ o') : (⟨b, o, none⟩ : Addr) ≠ ⟨b, o', none⟩ := fun e => h (by injection e)

/-- A byte as a value. -/
abbrev bv (x : UInt8) : Value := .int .u8 x.toNat
/-- A string as a value. -/
abbrev sv (l : List UInt8) : Value := .string ⟨l.toArray⟩

/-- The bytes l lie in block b from cell o on. -/
def Bts (w : World) (b o : Nat) (l : List UInt8) : Prop := ∀ i, i < l.length → w.cell? ⟨b, o + i, none⟩ = some (.int .u8 (l.getD i 0).toNat)

/-- Outside the cells S, what was there in w is as it was in w'. -/
structure Fr (S : Nat → Nat → Prop) (w w' : World) : Prop where
  os : w'.os = w.os
  tape : w'.tape = w.tape
  output : w'.output = w.output
  size : w.heap.size ≤ w'.heap.size
  cell : ∀ b o, b < w.heap.size → ¬ S b o → w'.cell? ⟨b, o, none⟩ = w.cell? ⟨b, o, none⟩
  frozen : ∀ b o, b < w.heap.size → ¬ S b o → w'.frozen? ⟨b, o, none⟩ = w.frozen? ⟨b, o, none⟩
  block : ∀ b, b < w.heap.size → (∀ o, ¬ S b o) → w'.heap[b]? = w.heap[b]?

/-- Nothing. -/
def No : Nat → Nat → Prop := fun _ _ => False

theorem Fr.refl (S : Nat → Nat → Prop) (w : World) : Fr S w w := ⟨rfl, rfl, rfl, Nat.le_refl _, fun _ _ _ _ => rfl, fun _ _ _ _ => rfl, fun _ _ _ => rfl⟩
/-- A second step that writes only cells of S, or blocks that are new since the first world. -/
theorem Fr.step {S T : Nat → Nat → Prop} {a b c : World} (h : Fr S a b) (k : Fr T b c) (hT : ∀ i o, i < a.heap.size → T i o → S i o) : Fr S a c :=
  ⟨k.os.trans h.os, k.tape.trans h.tape, k.output.trans h.output, Nat.le_trans h.size k.size,
   fun i o hi hs => (k.cell i o (Nat.lt_of_lt_of_le hi h.size) (fun ht => hs (hT i o hi ht))).trans (h.cell i o hi hs),
   fun i o hi hs => (k.frozen i o (Nat.lt_of_lt_of_le hi h.size) (fun ht => hs (hT i o hi ht))).trans (h.frozen i o hi hs),
   fun i hi hs => (k.block i (Nat.lt_of_lt_of_le hi h.size) (fun o ht => hs o (hT i o hi ht))).trans (h.block i hi hs)⟩
theorem Fr.trans {S : Nat → Nat → Prop} {a b c : World} (h : Fr S a b) (k : Fr S b c) : Fr S a c := h.step k fun _ _ _ x => x
theorem Fr.mono {S T : Nat → Nat → Prop} {w w' : World} (h : Fr S w w') (hST : ∀ b o, b < w.heap.size → S b o → T b o) : Fr T w w' :=
  ⟨h.os, h.tape, h.output, h.size, fun b o hb ht => h.cell b o hb (fun hs => ht (hST b o hb hs)), fun b o hb ht => h.frozen b o hb (fun hs => ht (hST b o hb hs)), fun b hb ht => h.block b hb (fun o hs => ht o (hST b o hb hs))⟩
theorem Fr.drew {S : Nat → Nat → Prop} {a w : World} (h : Fr S a w) : Fr S a w.drew := ⟨h.os, h.tape, h.output, h.size, h.cell, h.frozen, h.block⟩
theorem Fr.drewN {S : Nat → Nat → Prop} {a w : World} (h : Fr S a w) (n : Nat) : Fr S a (w.drewN n) := ⟨h.os, h.tape, h.output, h.size, h.cell, h.frozen, h.block⟩
theorem Fr.of_below {w w' : World} (S : Nat → Nat → Prop) (h : Below w.heap.size w w') : Fr S w w' :=
  ⟨h.os, h.tape, h.output, h.size, fun b o hb _ => h.cell (p := ⟨b, o, none⟩) hb, fun b o hb _ => h.frozen (p := ⟨b, o, none⟩) hb, fun b hb _ => h.block b hb⟩
theorem Fr.below {S : Nat → Nat → Prop} {w w' : World} (h : Fr S w w') (hS : ∀ b o, b < w.heap.size → ¬ S b o) : Below w.heap.size w w' :=
  ⟨h.os, h.tape, h.output, h.size, fun k hk => h.block k hk (fun o => hS k o hk)⟩
theorem Fr.no {w w' : World} (h : Fr No w w') : Below w.heap.size w w' := h.below fun _ _ _ x => x
theorem Fr.alloc {S : Nat → Nat → Prop} {a w : World} (h : Fr S a w) (o : Obj) : Fr S a (w.alloc o) :=
  h.trans (Fr.of_below S ((Below.refl _ _).alloc (Nat.le_refl _) o))
theorem Fr.setCell {S : Nat → Nat → Prop} {a w : World} (h : Fr S a w) {b o : Nat} (hS : b < a.heap.size → S b o) (u : Value) : Fr S a (w.setCell ⟨b, o, none⟩ u) := by
  refine ⟨h.os, h.tape, h.output, by simpa [World.setCell] using h.size, ?_, ?_, ?_⟩
  · intro b' o' hb' hs
    rw [← h.cell b' o' hb' hs]
    have : ¬ (b' = b ∧ o' = o) := by rintro ⟨rfl, rfl⟩; exact hs (hS hb')
    exact World.cell?_setCell_other _ _ _ _ (by intro e; simp at e; exact this ⟨e.1.symm, e.2.symm⟩)
  · intro b' o' hb' hs
    rw [← h.frozen b' o' hb' hs]
    exact World.frozen?_setCell _ _ _ _
  · intro b' hb' hs
    rw [← h.block b' hb' hs]
    exact Below.heap_setCell _ _ _ _ (by rintro rfl; exact hs o (hS hb'))
theorem Fr.grown {S : Nat → Nat → Prop} {a w w' : World} {row : Option Nat} (h : Fr S a w) (hg : w.grownBy w' row) (hr : ∀ k, row = some k → a.heap.size ≤ k) : Fr S a w' := by
  have hne : ∀ b, b < a.heap.size → w'.heap[b]? = w.heap[b]? := fun b hb => hg.block b (Nat.lt_of_lt_of_le hb h.size) (fun e => by have := hr b e.symm; omega)
  exact ⟨hg.os.trans h.os, hg.tape.trans h.tape, hg.output.trans h.output, Nat.le_trans h.size hg.size,
    fun b o hb hs => (World.cell?_of_block (w := w) (a := ⟨b, o, none⟩) (hne b hb)).trans (h.cell b o hb hs),
    fun b o hb hs => (World.frozen?_of_block (w := w) (a := ⟨b, o, none⟩) (hne b hb)).trans (h.frozen b o hb hs),
    fun b hb hs => (hne b hb).trans (h.block b hb hs)⟩

theorem Bts.lt {w : World} {b o : Nat} {l : List UInt8} (h : Bts w b o l) (hl : 0 < l.length) : b < w.heap.size := World.block_lt_of_cell? w _ (h 0 hl)
theorem Bts.fr {S : Nat → Nat → Prop} {w w' : World} {b o : Nat} {l : List UInt8} (h : Bts w b o l) (f : Fr S w w') (hS : ∀ i, i < l.length → ¬ S b (o + i)) : Bts w' b o l := by
  intro i hi
  rw [f.cell b (o + i) (World.block_lt_of_cell? w _ (h i hi)) (hS i hi)]
  exact h i hi
theorem Bts.take {w : World} {b o : Nat} {l : List UInt8} (h : Bts w b o l) (k : Nat) : Bts w b o (l.take k) := by
  intro i hi
  have hi' : i < k ∧ i < l.length := by simpa [Nat.lt_min] using hi
  rw [h i hi'.2]
  simp [List.getD_eq_getElem?_getD, hi'.1]
theorem Bts.drop {w : World} {b o : Nat} {l : List UInt8} (h : Bts w b o l) (k : Nat) : Bts w b (o + k) (l.drop k) := by
  intro i hi
  have hi' : i < l.length - k := by simpa using hi
  have := h (k + i) (by omega)
  rw [show o + k + i = o + (k + i) from by omega, this]
  simp [List.getD_eq_getElem?_getD, List.getElem?_drop]
theorem Bts.cells {w : World} {b o : Nat} {l : List UInt8} (h : Bts w b o l) : ∀ j u, (l.map bv)[j]? = some u → w.cell? ((⟨b, o, none⟩ : Addr).add j) = some u := by
  intro j u hu
  have hj : j < l.length := by
    have := (List.getElem?_eq_some_iff.1 hu).1
    simpa using this
  have hadd : (⟨b, o, none⟩ : Addr).add j = ⟨b, o + j, none⟩ := by unfold Addr.add; split <;> simp_all
  rw [hadd, h j hj]
  simp [List.getElem?_map, List.getElem?_eq_getElem hj, bv] at hu
  rw [← hu]; simp [List.getD_eq_getElem?_getD, List.getElem?_eq_getElem hj]
theorem Bts.of_cells {w : World} {b o : Nat} {l : List UInt8} (h : ∀ j u, (l.map bv)[j]? = some u → w.cell? ((⟨b, o, none⟩ : Addr).add j) = some u) : Bts w b o l := by
  intro i hi
  have hadd : (⟨b, o, none⟩ : Addr).add i = ⟨b, o + i, none⟩ := by unfold Addr.add; split <;> simp_all
  have := h i (bv (l.getD i 0)) (by simp [List.getElem?_eq_getElem hi, List.getD_eq_getElem?_getD])
  rw [hadd] at this; exact this

/-- Bytes turned into a string. -/
theorem conv_bts {P : Program} {w : World} {b o cap : Nat} {l : List UInt8} (h : Bts w b o l) {src e dst : TypeId} (hs : P.underlying src = some (.slice e)) (he : P.underlying e = some (.int .u8)) (hd : P.underlying dst = some .string) :
    (convert src dst (.slice (some ⟨b, o, none⟩) l.length cap)).run P w = .ok (.string ⟨l.toArray⟩) w := by
  rw [run_convert_bytes_arg w src e hs he b o l.length cap (l.map fun x => (x.toNat : Int)) (by simp) (fun i hi => by rw [h i hi]; simp [List.getD_eq_getElem?_getD, List.getElem?_eq_getElem hi]) dst hd]
  simp [strOfNums, Function.comp_def]

/-- append onto a row of one's own, as one step of a region that draws its order. -/
theorem step_append_own {P : Program} {ops : Array Oper} {o : Oper} {a : Act} {w : World} {K : Act → World → Prop} {Q : Exit → Act → World → Prop} {E : Prop}
    (hg : o.guard = none) (s x : Operand) (t : TypeId) (hop : o.op = Op.call { callee := Callee.builtin Builtin.append, args := #[s, x], argTypes := #[t, t] })
    (base : Nat) (e : TypeId) (i : TypeInfo) (z : Value) (size bytes : Nat) (h1 : P.underlying t = some (.slice e)) (h2 : P.info? e = some i) (h3 : i.zero = some z) (h4 : i.size = size) (h5 : i.bytes = bytes) (h6 : z.cells.size = size) (h7 : 0 < size)
    (v : Value) (n : Nat) (xs : List Value) (hs : a.eval s = v) (hown : w.ownsRow base e size v n xs)
    (ad : Addr) (m c : Nat) (news : List Value) (hx : a.eval x = .slice (some ad) m c) (hn : news.length = m * size) (hc : ∀ j u, news[j]? = some u → w.cell? (ad.add j) = some u) (h1c : ∀ u ∈ news, u.oneCell' = true)
    (b1 : n + m ≤ maxLen) (b2 : (n + m) * bytes ≤ 140737488355328) (hbase : base ≤ w.heap.size)
    (hK : ∀ v' w', w'.ownsRow base e size v' (n + m) (xs ++ news) → w.grownBy w' v.ownBlock → K (a.put o.dst v') w') :
    if Region.wanted o (yielded ops a.tmps) = true then Oper.wp P o a w K Q else E := by
  have hw : Region.wanted o (yielded ops a.tmps) = true := by simp [Region.wanted, hg]
  rw [if_pos hw]
  exact wp_append_own w s x t hop base e i z size bytes h1 h2 h3 h4 h5 h6 h7 v n xs hs hown ad m c news hx hn hc h1c b1 b2 hbase fun v' w' r1 r2 _ => hK v' w' r1 r2

/-- The cells of the blocks from B on. -/
def From (B : Nat) : Nat → Nat → Prop := fun b _ => B ≤ b
theorem Fr.append {w w' : World} {base : Nat} {e : TypeId} {size : Nat} {v : Value} {n : Nat} {xs : List Value} (hown : w.ownsRow base e size v n xs) (hg : w.grownBy w' v.ownBlock) : Fr (From base) w w' := by
  have hne : ∀ b, b < w.heap.size → (∀ o : Nat, ¬ From base b o) → w'.heap[b]? = w.heap[b]? := fun b hb hs => hg.block b hb (fun e => hs 0 (hown.lt b e.symm).1)
  refine ⟨hg.os, hg.tape, hg.output, hg.size, fun b o hb hs => (World.cell?_of_block (w := w) (a := ⟨b, o, none⟩) (hne b hb (fun _ => hs))),
    fun b o hb hs => (World.frozen?_of_block (w := w) (a := ⟨b, o, none⟩) (hne b hb (fun _ => hs))), hne⟩

theorem ownsRow_fr {S : Nat → Nat → Prop} {w w' : World} {base : Nat} {e : TypeId} {size : Nat} {v : Value} {n : Nat} {xs : List Value} (h : w.ownsRow base e size v n xs) (k : Fr S w w') (hS : ∀ b o, base ≤ b → b < w.heap.size → ¬ S b o) : w'.ownsRow base e size v n xs := by
  refine ⟨h.1, ?_⟩
  rcases h.2 with h2 | ⟨g, cap, cur, hv, hg, hh, r⟩
  · exact Or.inl h2
  · have hlt : g < w.heap.size := (Array.getElem?_eq_some_iff.1 hh).1
    exact Or.inr ⟨g, cap, cur, hv, hg, by rw [k.block g hlt (fun o => hS g o hg hlt)]; exact hh, r⟩
theorem ownsRow_base {w : World} {base base' : Nat} {e : TypeId} {size : Nat} {v : Value} {n : Nat} {xs : List Value} (h : w.ownsRow base e size v n xs) (hb : base' ≤ base) : w.ownsRow base' e size v n xs := by
  refine ⟨h.1, ?_⟩
  rcases h.2 with h2 | ⟨g, cap, cur, hv, hg, r⟩
  · exact Or.inl h2
  · exact Or.inr ⟨g, cap, cur, hv, Nat.le_trans hb hg, r⟩
theorem frSet (w : World) (b o : Nat) (v : Value) : Fr (fun b' o' => b' = b ∧ o' = o) w (w.setCell ⟨b, o, none⟩ v) := (Fr.refl _ _).setCell (fun _ => ⟨rfl, rfl⟩) v

/-- The values vs lie in block b from cell o on. -/
def Row (w : World) (b o : Nat) (vs : List Value) : Prop := ∀ i, i < vs.length → w.cell? ⟨b, o + i, none⟩ = some (vs.getD i undef)
theorem Row.lt {w : World} {b o : Nat} {vs : List Value} (h : Row w b o vs) (hl : 0 < vs.length) : b < w.heap.size := World.block_lt_of_cell? w _ (h 0 hl)
theorem Row.fr {S : Nat → Nat → Prop} {w w' : World} {b o : Nat} {vs : List Value} (h : Row w b o vs) (f : Fr S w w') (hS : ∀ i, i < vs.length → ¬ S b (o + i)) : Row w' b o vs := by
  intro i hi
  rw [f.cell b (o + i) (World.block_lt_of_cell? w _ (h i hi)) (hS i hi)]
  exact h i hi
theorem Row.cells {w : World} {b o : Nat} {vs : List Value} (h : Row w b o vs) : ∀ j u, vs[j]? = some u → w.cell? ((⟨b, o, none⟩ : Addr).add j) = some u := by
  intro j u hu
  have hj : j < vs.length := (List.getElem?_eq_some_iff.1 hu).1
  have hadd : (⟨b, o, none⟩ : Addr).add j = ⟨b, o + j, none⟩ := by unfold Addr.add; split <;> simp_all
  rw [hadd, h j hj, List.getD_eq_getElem?_getD, hu]; rfl
theorem Row.bts {w : World} {b o : Nat} {l : List UInt8} (h : Row w b o (l.map bv)) : Bts w b o l := Bts.of_cells h.cells
theorem Bts.row {w : World} {b o : Nat} {l : List UInt8} (h : Bts w b o l) : Row w b o (l.map bv) := by
  intro i hi
  have hi' : i < l.length := by simpa using hi
  rw [h i hi']
  simp [List.getD_eq_getElem?_getD, List.getElem?_eq_getElem hi', bv]
theorem Row.drop {w : World} {b o : Nat} {vs : List Value} (h : Row w b o vs) (k : Nat) : Row w b (o + k) (vs.drop k) := by
  intro i hi
  have hi' : i < vs.length - k := by simpa using hi
  have := h (k + i) (by omega)
  rw [show o + k + i = o + (k + i) from by omega, this]
  simp [List.getD_eq_getElem?_getD, List.getElem?_drop]
theorem Row.take {w : World} {b o : Nat} {vs : List Value} (h : Row w b o vs) (k : Nat) : Row w b o (vs.take k) := by
  intro i hi
  have hi' : i < k ∧ i < vs.length := by simpa [Nat.lt_min] using hi
  rw [h i hi'.2]
  simp [List.getD_eq_getElem?_getD, hi'.1]

/-- An address from which the values vs can be read: any at all if there are none. -/
def At (w : World) (a : Option Addr) (vs : List Value) : Prop := 0 < vs.length → ∃ g off, a = some ⟨g, off, none⟩ ∧ Row w g off vs
theorem At.nil (w : World) (a : Option Addr) : At w a [] := fun h => absurd h (by simp)
theorem At.fr {S : Nat → Nat → Prop} {w w' : World} {a : Option Addr} {vs : List Value} (h : At w a vs) (f : Fr S w w') (hS : ∀ g off, a = some ⟨g, off, none⟩ → g < w.heap.size → ∀ i, i < vs.length → ¬ S g (off + i)) : At w' a vs := by
  intro hp
  obtain ⟨g, off, rfl, hr⟩ := h hp
  exact ⟨g, off, rfl, hr.fr f (hS g off rfl (hr.lt hp))⟩
/-- What one owns can be read. -/
theorem at_of_own {w : World} {base : Nat} {e : TypeId} {size : Nat} {v : Value} {n : Nat} {xs : List Value} (h : w.ownsRow base e size v n xs) : ∃ a cap, v = .slice a n cap ∧ At w a xs ∧ (∀ g off, a = some ⟨g, off, none⟩ → base ≤ g) := by
  rcases h.2 with ⟨rfl, rfl⟩ | ⟨g, cap, cur, rfl, hg, hh, h1, h2, h3, h4⟩
  · refine ⟨none, 0, rfl, ?_, by simp⟩
    have := h.1
    have hx : xs = [] := List.eq_nil_of_length_eq_zero (by simpa using this)
    subst hx
    exact At.nil _ _
  · refine ⟨some ⟨g, 0, none⟩, cap, rfl, fun _ => ⟨g, 0, rfl, fun i hi => ?_⟩, fun g' off' e => by injection e with e; injection e with e; omega⟩
    have := h.cells (g := g) (by simp [Value.ownBlock]) i (xs.getD i undef) (by simp [List.getD_eq_getElem?_getD, List.getElem?_eq_getElem hi])
    rw [show ((⟨g, 0, none⟩ : Addr).add i) = ⟨g, 0 + i, none⟩ from by unfold Addr.add; split <;> simp_all] at this
    exact this

/-- Bytes turned into a string, at whatever address. -/
theorem conv_at {P : Program} {w : World} {a : Option Addr} {cap : Nat} {l : List UInt8} (h : At w a (l.map bv)) {src e dst : TypeId} (hs : P.underlying src = some (.slice e)) (he : P.underlying e = some (.int .u8)) (hd : P.underlying dst = some .string) :
    (convert src dst (.slice a l.length cap)).run P w = .ok (.string ⟨l.toArray⟩) w := by
  by_cases hl : 0 < l.length
  · obtain ⟨g, off, rfl, hr⟩ := h (by simpa using hl)
    exact conv_bts hr.bts hs he hd
  · have : l = [] := List.eq_nil_of_length_eq_zero (by omega)
    subst this
    cases a with
    | none => exact run_convert_bytes_nil w src e hs he _ _ dst hd
    | some a =>
      obtain ⟨b, o, sp⟩ := a
      rw [run_convert_bytes_string w src dst e _ _ _ hs he hd, run_bytesToString w _ _ cap [] (by simp [loadCells, loadCellsFrom])]
      simp; rfl

/-- The address of s[lo:], of a slice of capacity cap at a. -/
def subA (a : Option Addr) (cap lo size : Nat) : Option Addr := if cap = lo then a else a.map (·.add (lo * size))
theorem At.sub {w : World} {a : Option Addr} {vs : List Value} (h : At w a vs) {cap lo : Nat} (hc : vs.length ≤ cap) : At w (subA a cap lo 1) (vs.drop lo) := by
  intro hp
  have hlo : lo < vs.length := by simp at hp; omega
  obtain ⟨g, off, rfl, hr⟩ := h (by omega)
  refine ⟨g, off + lo, ?_, hr.drop lo⟩
  unfold subA
  rw [if_neg (by omega)]
  simp only [Option.map_some, Nat.mul_one]
  congr 1
  unfold Addr.add; split <;> simp_all
theorem subA_own {a : Option Addr} {cap lo size n c : Nat} {g off : Nat} (h : subA a cap lo size = some ⟨g, off, none⟩) : (Value.slice a n c).ownBlock = some g := by
  unfold subA at h
  split at h
  · subst h; rfl
  · cases a with
    | none => simp at h
    | some x =>
      simp only [Option.map_some, Option.some.injEq] at h
      have : (x.add (lo * size)).block = g := by rw [h]
      rw [← this]
      unfold Addr.add; split <;> rfl
theorem At.take {w : World} {a : Option Addr} {vs : List Value} (h : At w a vs) (k : Nat) : At w a (vs.take k) := by
  intro hp
  have : 0 < vs.length := by
    have := List.length_take_le k vs
    rcases Nat.eq_zero_or_pos vs.length with e | e
    · simp [List.eq_nil_of_length_eq_zero e] at hp
    · exact e
  obtain ⟨g, off, rfl, hr⟩ := h this
  exact ⟨g, off, rfl, hr.take k⟩
theorem run_slice_from {P : Program} (w : World) (t e : TypeId) (a : Option Addr) (n cap lo : Nat) (i : TypeInfo) (ht : P.underlying t = some (.slice e)) (hi : P.info? e = some i) (hlo : lo ≤ n) :
    (Instr.slice t (.slice a n cap) (some (.int .i64 lo)) none none).run P w = .ok (.slice (subA a cap lo i.size) (n - lo) (cap - lo)) w := by
  have h1 : (lo : Int) ≤ n := by omega
  simp [Instr.slice, run_underlying ht, Instr.sliceBounds, run_sliceBound, sizeOf, typeInfo, hi, subA, h1]

/-- A slice of one's own, anywhere in a block that is not frozen: n elements, whose cells are xs. -/
def OwnSl (w : World) (e : TypeId) (size : Nat) (v : Value) (n : Nat) (xs : List Value) : Prop :=
  xs.length = n * size ∧ ((v = .slice none 0 0 ∧ n = 0) ∨
    ∃ g off cap cur, v = .slice (some ⟨g, off, none⟩) n cap ∧ w.heap[g]? = some (.cells cur e (0, 0)) ∧ n ≤ cap ∧ cap ≤ maxLen ∧ off + cap * size ≤ cur.size ∧ Row w g off xs)
/-- The cells of a slice's own block. -/
def Blk (v : Value) : Nat → Nat → Prop := fun b _ => v.ownBlock = some b
theorem OwnSl.nil (w : World) (e : TypeId) (size : Nat) : OwnSl w e size (.slice none 0 0) 0 [] := ⟨by simp, .inl ⟨rfl, rfl⟩⟩
theorem OwnSl.lt {w : World} {e : TypeId} {size : Nat} {v : Value} {n : Nat} {xs : List Value} (h : OwnSl w e size v n xs) : ∀ k, v.ownBlock = some k → k < w.heap.size := by
  intro k hk
  rcases h.2 with ⟨rfl, _⟩ | ⟨g, off, cap, cur, rfl, hg, _⟩
  · simp [Value.ownBlock] at hk
  · simp [Value.ownBlock] at hk; subst hk; exact (Array.getElem?_eq_some_iff.1 hg).1
theorem OwnSl.fr {S : Nat → Nat → Prop} {w w' : World} {e : TypeId} {size : Nat} {v : Value} {n : Nat} {xs : List Value} (h : OwnSl w e size v n xs) (k : Fr S w w') (hS : ∀ b o, v.ownBlock = some b → ¬ S b o) : OwnSl w' e size v n xs := by
  refine ⟨h.1, ?_⟩
  rcases h.2 with h2 | ⟨g, off, cap, cur, rfl, hh, r1, r2, r3, r4⟩
  · exact .inl h2
  · exact .inr ⟨g, off, cap, cur, rfl, by rw [k.block g (Array.getElem?_eq_some_iff.1 hh).1 (fun o => hS g o rfl)]; exact hh, r1, r2, r3, r4.fr k fun i _ => hS g (off + i) rfl⟩
theorem row_of_heap {w : World} {g off : Nat} {cur : Array Value} {e : TypeId} {f : Nat × Nat} {xs : List Value} (hg : w.heap[g]? = some (.cells cur e f)) : Row w g off xs ↔ (cur.toList.drop off).take xs.length = xs := by
  have hc : ∀ i, w.cell? ⟨g, off + i, none⟩ = cur[off + i]? := fun i => by simp [World.cell?, hg]
  constructor
  · intro h
    apply List.ext_getElem?
    intro i
    by_cases hi : i < xs.length
    · have := h i hi
      rw [hc] at this
      rw [List.getElem?_take, if_pos hi, List.getElem?_drop, Array.getElem?_toList, this, List.getD_eq_getElem?_getD, List.getElem?_eq_getElem hi]; rfl
    · rw [List.getElem?_take, if_neg hi, List.getElem?_eq_none (by omega)]
  · intro h i hi
    rw [hc]
    have : ((cur.toList.drop off).take xs.length)[i]? = xs[i]? := by rw [h]
    rw [List.getElem?_take, if_pos hi, List.getElem?_drop, Array.getElem?_toList, List.getElem?_eq_getElem hi] at this
    rw [this, List.getD_eq_getElem?_getD, List.getElem?_eq_getElem hi]; rfl
theorem own_of_row {w : World} {base : Nat} {e : TypeId} {size : Nat} {v : Value} {n : Nat} {xs : List Value} (h : w.ownsRow base e size v n xs) : OwnSl w e size v n xs ∧ ∀ k, v.ownBlock = some k → base ≤ k := by
  refine ⟨⟨h.1, ?_⟩, fun k hk => (h.lt k hk).1⟩
  rcases h.2 with h2 | ⟨g, cap, cur, rfl, hb, hg, h1, h2, h3, h4⟩
  · exact .inl h2
  · refine .inr ⟨g, 0, cap, cur, rfl, hg, h1, h2, by omega, (row_of_heap hg).2 ?_⟩
    rw [h.1]; simpa using h4

/-- What append appends: m elements, whose cells are news; of a type that is no integer. -/
structure Src (P : Program) (w : World) (size : Nat) (u : TypeId) (x : Value) (m : Nat) (news : List Value) : Prop where
  len : news.length = m * size
  one : ∀ y ∈ news, y.oneCell' = true
  type : ∃ d, P.underlying u = some d ∧ ∀ k, d ≠ .int k
  lenOf : ∀ W : World, (Builtin.lenOf x).run P W = .ok m W
  cells : ∀ W : World, W.heap = w.heap → (Builtin.firstCells size m x).run P W = .ok news.toArray W
theorem cell_heap {w W : World} (h : W.heap = w.heap) (a : Addr) : W.cell? a = w.cell? a := by simp [World.cell?, h]
theorem src_slice {P : Program} {w : World} {size : Nat} {u e : TypeId} {xa : Option Addr} {m c : Nat} {news : List Value} (hu : P.underlying u = some (.slice e)) (hl : news.length = m * size) (hn : At w xa news) (h1 : ∀ y ∈ news, y.oneCell' = true) : Src P w size u (.slice xa m c) m news := by
  refine ⟨hl, h1, ⟨_, hu, by intro k h; cases h⟩, fun W => by simp [Builtin.lenOf], fun W hW => ?_⟩
  cases xa with
  | none =>
    have : news = [] := by
      rcases Nat.eq_zero_or_pos news.length with h0 | h0
      · exact List.eq_nil_of_length_eq_zero h0
      · obtain ⟨g, off, h, _⟩ := hn h0; cases h
    subst this
    exact run_firstCells_none W _ _ _ _
  | some ad =>
    refine run_firstCells_some W size m ad m c news hl fun j y hj => ?_
    have hp : 0 < news.length := by have := (List.getElem?_eq_some_iff.1 hj).1; omega
    obtain ⟨g, off, h, hr⟩ := hn hp
    cases h
    rw [cell_heap hW]
    exact hr.cells j y hj
theorem src_string {P : Program} {w : World} {u : TypeId} {l : List UInt8} (hu : P.underlying u = some .string) : Src P w 1 u (sv l) l.length (l.map bv) := by
  refine ⟨by simp, by simp [bv, Value.oneCell'], ⟨_, hu, by intro k h; cases h⟩, fun W => by simp [Builtin.lenOf]; rfl, fun W _ => ?_⟩
  simp [Builtin.firstCells]

/-- append, onto a slice of one's own. -/
theorem run_append_sl {P : Program} {w : World} (t u ty e : TypeId) (i : TypeInfo) (z : Value) (size bytes : Nat) (ht : P.underlying t = some (.slice e)) (hi : P.info? e = some i) (hz : i.zero = some z)
    (hsize : i.size = size) (hby : i.bytes = bytes) (hzs : z.cells.size = size) (hsz : 0 < size)
    (v : Value) (n : Nat) (xs : List Value) (hown : OwnSl w e size v n xs) (x : Value) (m : Nat) (news : List Value) (hx : Src P w size u x m news)
    (hb : n + m ≤ 1000000000000) (hbytes : (n + m) * bytes ≤ 140737488355328) :
    ∃ v' w', (Builtin.append_ #[t, u] ty #[v, x]).run P w = .ok v' w' ∧ OwnSl w' e size v' (n + m) (xs ++ news) ∧ Fr (Blk v) w w' ∧ (v'.ownBlock = v.ownBlock ∨ v'.ownBlock = some w.heap.size) := by
  subst hsize; subst hby
  obtain ⟨d, hu, hd⟩ := hx.type
  have hxl := hx.lenOf
  have hz0 : (match some d with | some (.int k) => true | _ => false) = false := by
    cases d <;> first | rfl | exact absurd rfl (hd _)
  have hfr0 : ∀ o, Fr (Blk v) w (w.drew.alloc o) := fun o => (Fr.refl _ w).drew.alloc o
  have hlen : (xs ++ news).length = (n + m) * i.size := by rw [List.length_append, hown.1, hx.len, Nat.add_mul]
  have grow : ∀ (a : Option Addr) (cap : Nat), v = .slice a n cap → cap < n + m → (∀ W : World, W.heap = w.heap → (Builtin.firstCells i.size n v).run P W = .ok xs.toArray W) →
      ∃ v' w', (Builtin.append_ #[t, u] ty #[v, x]).run P w = .ok v' w' ∧ OwnSl w' e i.size v' (n + m) (xs ++ news) ∧ Fr (Blk v) w w' ∧ (v'.ownBlock = v.ownBlock ∨ v'.ownBlock = some w.heap.size) := by
    intro a cap hv hg hold
    have hc1 : ¬ (n + m ≤ cap) := by omega
    have hc2 : ¬ ((9223372036854775807 : Int) < (n : Int) + m) := by omega
    have hc3 : ¬ (281474976710656 < Builtin.nextslicecap (n + m) cap * i.bytes) := by have := growslice_fits hg hbytes; omega
    have hge := grownCap_ge w (n + m) cap e
    have hcm := grownCap_le_maxLen w (n + m) cap e (by unfold maxLen; omega)
    refine ⟨.slice (some ⟨w.heap.size, 0, none⟩) (n + m) (grownCap w (n + m) cap e), w.drew.alloc (.cells (xs.toArray ++ news.toArray ++ Builtin.zeroCells z.cells (grownCap w (n + m) cap e - (n + m))) e), ?_, ⟨hlen, .inr ⟨w.heap.size, 0, _, _, rfl, heap_alloc_new w.drew _, hge, hcm, ?_, ?_⟩⟩, hfr0 _, .inr rfl⟩
    · have ho := hold w.drew rfl
      have hn := hx.cells w.drew rfl
      subst hv
      simp [Builtin.append_, run_underlying ht, run_underlying hu, sizeOf, typeInfo, zeroValue, hi, hz, hxl, hc1, hc2, hc3, Question.forced, ho, hn, newRow, grownCap]
      congr 2
      apply Array.ext'
      simp [List.append_assoc]
    · simp only [Array.size_append, List.size_toArray, size_zeroCells, hzs, hown.1, hx.len, ← Nat.add_mul]
      have : n + m + (grownCap w (n + m) cap e - (n + m)) = grownCap w (n + m) cap e := by omega
      rw [this]; omega
    · refine (row_of_heap (heap_alloc_new w.drew _)).2 ?_
      simp only [Array.toList_append, List.drop_zero]
      exact List.take_left
  rcases hown.2 with ⟨rfl, rfl⟩ | ⟨g, off, cap, cur, rfl, hg, hnc, hcm, hcs, hrow⟩
  · have hx0 : xs = [] := List.eq_nil_of_length_eq_zero (by simpa using hown.1)
    subst hx0
    by_cases hm : m = 0
    · subst hm
      have hn0 : news = [] := List.eq_nil_of_length_eq_zero (by simpa using hx.len)
      subst hn0
      refine ⟨.slice none 0 0, w, ?_, OwnSl.nil w e i.size, Fr.refl _ _, .inl rfl⟩
      have hn := hx.cells w rfl
      simp [Builtin.append_, run_underlying ht, run_underlying hu, sizeOf, typeInfo, hi, hxl, hn]
    · exact grow none 0 rfl (by omega) (fun W _ => run_firstCells_none W _ _ _ _)
  · by_cases hroom : n + m ≤ cap
    · have hle : (n + m) * i.size ≤ cap * i.size := Nat.mul_le_mul_right _ hroom
      rw [Nat.add_mul, ← hx.len, ← hown.1] at hle
      have hst := run_storeCells_at P g (off + n * i.size) e news 0 cur w hg (by rw [← hown.1]; omega) hx.one
      have hadd : (⟨g, off, none⟩ : Addr).add (n * i.size) = ⟨g, off + n * i.size, none⟩ := by unfold Addr.add; split <;> simp_all
      have hn := hx.cells w rfl
      refine ⟨.slice (some ⟨g, off, none⟩) (n + m) cap, w.setRow g (cur.toList.take (off + n * i.size) ++ news ++ cur.toList.drop (off + n * i.size + news.length)).toArray, ?_, ⟨hlen, .inr ⟨g, off, cap, _, rfl, setRow_heap w g cur _ e _ hg, hroom, hcm, ?_, ?_⟩⟩, ?_, .inl rfl⟩
      · simp only [Nat.add_zero] at hst
        simp [Builtin.append_, run_underlying ht, run_underlying hu, sizeOf, typeInfo, hi, hxl, hn, hroom, hadd, hst]
      · simp only [List.size_toArray, List.length_append, List.length_take, List.length_drop, Array.length_toList]
        omega
      · refine (row_of_heap (setRow_heap w g cur _ e _ hg)).2 ?_
        have h0 := (row_of_heap hg).1 hrow
        have h1 : cur.toList.take (off + n * i.size) = cur.toList.take off ++ xs := by
          rw [List.take_add, ← hown.1, h0]
        have h2 : (cur.toList.take off).length = off := by simp; omega
        simp only [h1, List.append_assoc]
        rw [List.drop_left' h2, ← List.append_assoc]
        exact List.take_left
      · refine ⟨rfl, rfl, rfl, by simp, fun b o hb hs => ?_, fun b o hb hs => ?_, fun b hb hs => ?_⟩
        · exact World.cell?_of_block (w := w) (setRow_other w g b _ (fun h => hs (by simp [Blk, Value.ownBlock, h])))
        · exact World.frozen?_of_block (w := w) (setRow_other w g b _ (fun h => hs (by simp [Blk, Value.ownBlock, h])))
        · exact setRow_other w g b _ (fun h => hs 0 (by simp [Blk, Value.ownBlock, h]))
    · exact grow _ cap rfl (by omega) (fun W hW => run_firstCells_some W i.size n _ n cap xs hown.1 (fun j y hj => by rw [cell_heap hW]; exact hrow.cells j y hj))

/-- The same, as the walk meets it. -/
theorem wpList_append_sl {P : Program} {w : World} {ops : Array Oper} {rest : List Oper} {o : Oper} {a : Act} {Q : Exit → Act → World → Prop} (hgd : o.guard = none) (s x : Operand) (t u : TypeId)
    (ho : o.op = .call { callee := .builtin .append, args := #[s, x], argTypes := #[t, u] })
    (e : TypeId) (i : TypeInfo) (z : Value) (size bytes : Nat) (ht : P.underlying t = some (.slice e)) (hi : P.info? e = some i) (hz : i.zero = some z)
    (hsize : i.size = size) (hby : i.bytes = bytes) (hzs : z.cells.size = size) (hsz : 0 < size)
    (v : Value) (n : Nat) (xs : List Value) (hs : a.eval s = v) (hown : OwnSl w e size v n xs) (xv : Value) (m : Nat) (news : List Value) (hxv : a.eval x = xv) (hx : Src P w size u xv m news)
    (hb : n + m ≤ 1000000000000) (hbytes : (n + m) * bytes ≤ 140737488355328)
    (h : ∀ v' w', OwnSl w' e size v' (n + m) (xs ++ news) → Fr (Blk v) w w' → (v'.ownBlock = v.ownBlock ∨ v'.ownBlock = some w.heap.size) → wpList P ops Q rest (a.put o.dst v') w') : wpList P ops Q (o :: rest) a w := by
  refine wpList_plain hgd fun K hK => ?_
  obtain ⟨v', w', hr, h2, h3, h4⟩ := run_append_sl (P := P) t u o.type e i z size bytes ht hi hz hsize hby hzs hsz v n xs hown xv m news hx hb hbytes
  unfold Oper.wp execOp
  simp only [ho, resolve, invoke, builtin, Sem.run_bind, Sem.run_pure, Result.andThen_ok, List.map_toArray, List.map_cons, List.map_nil, hs, hxv, hr]
  exact hK _ _ (h v' w' h2 h3 h4)
/-- The same, in a region that draws its order. -/
theorem step_append_sl {P : Program} {w : World} {ops : Array Oper} {o : Oper} {a : Act} {K : Act → World → Prop} {Q : Exit → Act → World → Prop} {E : Prop} (hgd : o.guard = none) (s x : Operand) (t u : TypeId)
    (ho : o.op = .call { callee := .builtin .append, args := #[s, x], argTypes := #[t, u] })
    (e : TypeId) (i : TypeInfo) (z : Value) (size bytes : Nat) (ht : P.underlying t = some (.slice e)) (hi : P.info? e = some i) (hz : i.zero = some z)
    (hsize : i.size = size) (hby : i.bytes = bytes) (hzs : z.cells.size = size) (hsz : 0 < size)
    (v : Value) (n : Nat) (xs : List Value) (hs : a.eval s = v) (hown : OwnSl w e size v n xs) (xv : Value) (m : Nat) (news : List Value) (hxv : a.eval x = xv) (hx : Src P w size u xv m news)
    (hb : n + m ≤ 1000000000000) (hbytes : (n + m) * bytes ≤ 140737488355328)
    (h : ∀ v' w', OwnSl w' e size v' (n + m) (xs ++ news) → Fr (Blk v) w w' → (v'.ownBlock = v.ownBlock ∨ v'.ownBlock = some w.heap.size) → K (a.put o.dst v') w') :
    if Region.wanted o (yielded ops a.tmps) = true then Oper.wp P o a w K Q else E := by
  have hw : Region.wanted o (yielded ops a.tmps) = true := by simp [Region.wanted, hgd]
  rw [if_pos hw]
  obtain ⟨v', w', hr, h2, h3, h4⟩ := run_append_sl (P := P) t u o.type e i z size bytes ht hi hz hsize hby hzs hsz v n xs hown xv m news hx hb hbytes
  unfold Oper.wp execOp
  simp only [ho, resolve, invoke, builtin, Sem.run_bind, Sem.run_pure, Result.andThen_ok, List.map_toArray, List.map_cons, List.map_nil, hs, hxv, hr]
  exact h v' w' h2 h3 h4

/-- A cell behind a store elsewhere in its block. -/
theorem cell_set {w : World} {b o o' : Nat} {u : Value} (h : o ≠ o') : (w.setCell ⟨b, o, none⟩ u).cell? ⟨b, o', none⟩ = w.cell? ⟨b, o', none⟩ := World.cell?_setCell_other _ _ _ _ (ne_off h)
theorem cell_here {w : World} {b o : Nat} {u v : Value} (h : w.cell? ⟨b, o, none⟩ = some u) : (w.setCell ⟨b, o, none⟩ v).cell? ⟨b, o, none⟩ = some v := World.cell?_setCell_same _ _ _ h

/-- '[]byte("..")' of a constant: the literal's row is marked behind its end. -/
theorem conv_const {P : Program} (t e : TypeId) (ht : P.underlying t = some (.slice e)) (he : P.underlying e = some (.int .u8)) (w : World) (C : Array Value) (n c g : Nat) (hg : g = w.heap.size) :
    (convert t t (.slice (some ⟨g, 0, none⟩) n c)).run P (w.alloc (.cells C e)) = .ok (.slice (some ⟨g, 0, none⟩) n c) (w.alloc (.cells C e (C.size, C.size + 1))) := by
  subst hg; exact Lib.run_convert_bytes_const w t e C n c ht he
/-- The row of a literal, marked or not. -/
theorem row_new (w : World) (vs : List Value) (e : TypeId) (f : Nat × Nat) : Row (w.alloc (.cells vs.toArray e f)) w.heap.size 0 vs := by
  refine (row_of_heap (heap_alloc_new w _)).2 ?_
  simp

theorem row_at (w : World) (C : Array Value) (vs : List Value) (hC : C.toList = vs) (g : Nat) (hg : g = w.heap.size) (e : TypeId) (f : Nat × Nat) : Row (w.alloc (.cells C e f)) g 0 vs := by
  subst hg; subst hC
  refine (row_of_heap (heap_alloc_new w _)).2 ?_
  rw [List.drop_zero]
  exact List.take_length
theorem Row.get {w : World} {b o : Nat} {vs : List Value} (h : Row w b o vs) (i : Nat) (v : Value) (hv : vs[i]? = some v) : w.cell? ⟨b, o + i, none⟩ = some v := by
  rw [h i (List.getElem?_eq_some_iff.1 hv).1, List.getD_eq_getElem?_getD, hv]; rfl

theorem run_slice_to {P : Program} (w : World) (t e : TypeId) (a : Option Addr) (n cap hi : Nat) (i : TypeInfo) (ht : P.underlying t = some (.slice e)) (hi' : P.info? e = some i) (h : hi ≤ cap) :
    (Instr.slice t (.slice a n cap) none (some (.int .i64 hi)) none).run P w = .ok (.slice a hi cap) w := by
  have h1 : (hi : Int) ≤ cap := by omega
  have h2 : (a.map fun x => x.add 0) = a := by
    cases a with
    | none => rfl
    | some x => simp [Addr.add]
  simp [Instr.slice, run_underlying ht, Instr.sliceBounds, run_sliceBound, sizeOf, typeInfo, hi', h1, h2]

/-- The pieces ps can be read at a. -/
def AtP (w : World) (a : Option Addr) (ps : List (List UInt8)) : Prop := 0 < ps.length → ∃ g off, a = some ⟨g, off, none⟩ ∧
  ∀ i (h : i < ps.length), ∃ xa c, w.cell? ⟨g, off + i, none⟩ = some (.slice xa ps[i].length c) ∧ At w xa (ps[i].map bv)
theorem AtP.fr {S : Nat → Nat → Prop} {w w' : World} {a : Option Addr} {ps : List (List UInt8)} (h : AtP w a ps) (k : Fr S w w') (hS : ∀ b o, b < w.heap.size → ¬ S b o) : AtP w' a ps := by
  intro hp
  obtain ⟨g, off, rfl, hr⟩ := h hp
  refine ⟨g, off, rfl, fun i hi => ?_⟩
  obtain ⟨xa, c, h1, h2⟩ := hr i hi
  have hlt := World.block_lt_of_cell? w _ h1
  exact ⟨xa, c, by rw [k.cell _ _ hlt (hS _ _ hlt)]; exact h1, h2.fr k fun g off _ hg i _ => hS _ _ hg⟩


theorem OwnSl.get {w : World} {e : TypeId} {a : Option Addr} {n c : Nat} {xs : List Value} (h : OwnSl w e 1 (.slice a n c) n xs) {j : Nat} (hj : j < n) :
    ∃ g o, a = some ⟨g, o, none⟩ ∧ w.cell? ⟨g, o + j, none⟩ = some (xs.getD j undef) ∧ w.frozen? ⟨g, o + j, none⟩ = false := by
  have hl := h.1
  rcases h.2 with ⟨_, h0⟩ | ⟨g, o, cap, cur, hv, hg, h1, h2, h3, hr⟩
  · omega
  · injection hv with hv
    exact ⟨g, o, hv, hr j (by omega), by simp [World.frozen?, hg]⟩
theorem OwnSl.set {w : World} {e : TypeId} {g o n c : Nat} {xs : List Value} (h : OwnSl w e 1 (.slice (some ⟨g, o, none⟩) n c) n xs) {j : Nat} (hj : j < n) (u : Value) :
    OwnSl (w.setCell ⟨g, o + j, none⟩ u) e 1 (.slice (some ⟨g, o, none⟩) n c) n (xs.set j u) := by
  have hl := h.1
  refine ⟨by simpa using hl, .inr ?_⟩
  rcases h.2 with ⟨hv, _⟩ | ⟨g', o', cap, cur, hv, hg, h1, h2, h3, hr⟩
  · injection hv with hv; cases hv
  · injection hv with hv hv2 hv3
    injection hv with hv; injection hv with e1 e2
    subst e1; subst e2; subst hv3
    rw [setCell_eq_setRow w g (o + j) cur e (0, 0) u hg]
    refine ⟨g, o, c, _, rfl, setRow_heap w g cur _ e _ hg, h1, h2, by simpa using h3, fun i hi => ?_⟩
    have hi' : i < xs.length := by simpa using hi
    have hri := hr i hi'
    rw [← setCell_eq_setRow w g (o + j) cur e (0, 0) u hg]
    by_cases hij : i = j
    · subst hij
      rw [cell_here hri]
      simp [List.getD_eq_getElem?_getD, hi']
    · rw [cell_set (by omega), hri]
      simp [List.getD_eq_getElem?_getD, Ne.symm hij]

theorem ownBlock_len (a : Option Addr) (n c n' c' : Nat) : (Value.slice a n c).ownBlock = (Value.slice a n' c').ownBlock := by cases a <;> rfl

theorem OwnSl.at {w : World} {e : TypeId} {size : Nat} {v : Value} {n : Nat} {xs : List Value} (h : OwnSl w e size v n xs) : ∃ a cap, v = .slice a n cap ∧ At w a xs ∧ n ≤ cap := by
  rcases h.2 with ⟨rfl, rfl⟩ | ⟨g, off, cap, cur, rfl, hg, h1, h2, h3, hr⟩
  · have hx : xs = [] := List.eq_nil_of_length_eq_zero (by simpa using h.1)
    subst hx
    exact ⟨none, 0, rfl, At.nil _ _, Nat.le_refl _⟩
  · exact ⟨_, cap, rfl, fun _ => ⟨g, off, rfl, hr⟩, h1⟩

theorem strCells_sv (l : List UInt8) : Lib.strCells ⟨l.toArray⟩ = l.map bv := by
  simp [Lib.strCells]

theorem one_cell_at {w : World} {b : Nat} {v : Value} (h : w.cell? ⟨b, 0, none⟩ = some v) : ∀ j u, [v][j]? = some u → w.cell? ((⟨b, 0, none⟩ : Addr).add j) = some u := by
  intro j u hj
  match j, hj with
  | 0, hj => simp at hj; subst hj; simpa [Addr.add] using h

theorem Fr.setRow {S : Nat → Nat → Prop} {a w : World} (h : Fr S a w) (g : Nat) (cs : Array Value) (hS : ∀ o, g < a.heap.size → S g o) : Fr S a (w.setRow g cs) := by
  refine ⟨h.os, h.tape, h.output, by simpa using h.size, fun b o hb hs => ?_, fun b o hb hs => ?_, fun b hb hs => ?_⟩
  · have hne : b ≠ g := by rintro rfl; exact hs (hS o hb)
    rw [← h.cell b o hb hs]
    exact World.cell?_of_block (w := w) (a := ⟨b, o, none⟩) (setRow_other w g b cs hne)
  · have hne : b ≠ g := by rintro rfl; exact hs (hS o hb)
    rw [← h.frozen b o hb hs]
    exact World.frozen?_of_block (w := w) (a := ⟨b, o, none⟩) (setRow_other w g b cs hne)
  · have hne : b ≠ g := by rintro rfl; exact hs 0 (hS 0 hb)
    rw [← h.block b hb hs]
    exact setRow_other w g b cs hne
theorem cell_block {w : World} {g : Nat} {cs : Array Value} {t : TypeId} {f : Nat × Nat} (h : w.heap[g]? = some (.cells cs t f)) (o : Nat) : w.cell? ⟨g, o, none⟩ = cs[o]? := by simp [World.cell?, h]
theorem frozen_block {w : World} {g : Nat} {cs : Array Value} {t : TypeId} (h : w.heap[g]? = some (.cells cs t (0, 0))) (o : Nat) : w.frozen? ⟨g, o, none⟩ = false := by simp [World.frozen?, h]
theorem cell_alloc {w : World} {b o : Nat} {v : Value} (h : w.cell? ⟨b, o, none⟩ = some v) (x : Obj) : (w.alloc x).cell? ⟨b, o, none⟩ = some v :=
  (((Fr.refl No w).alloc x).cell b o (World.block_lt_of_cell? w _ h) (fun y => y)).trans h
theorem Fr.at {w w1 : World} (h : Fr No w w1) : (∀ b o, b < w.heap.size → w1.cell? ⟨b, o, none⟩ = w.cell? ⟨b, o, none⟩) ∧ (∀ b o, b < w.heap.size → w1.frozen? ⟨b, o, none⟩ = w.frozen? ⟨b, o, none⟩) :=
  ⟨fun b o hb => h.cell b o hb (fun x => x), fun b o hb => h.frozen b o hb (fun x => x)⟩
/-- The cells of a block that was laid, later. -/
theorem box_at {w W : World} {cs : Array Value} {t : TypeId} {f : Nat × Nat} (h : Fr No (w.alloc (.cells cs t f)) W) : (∀ o, W.cell? ⟨w.heap.size, o, none⟩ = cs[o]?) ∧ w.heap.size < W.heap.size := by
  refine ⟨fun o => ?_, by have := h.size; simp at this; omega⟩
  rw [h.cell _ _ (by simp) (fun x => x)]
  exact cell_block (heap_alloc_new w _) o
theorem box_block {w W : World} {cs : Array Value} {t : TypeId} {f : Nat × Nat} (h : Fr No (w.alloc (.cells cs t f)) W) : W.heap[w.heap.size]? = some (.cells cs t f) := by
  rw [h.block _ (by simp) (fun _ x => x)]
  exact heap_alloc_new w _
end Go.Proofs.Ytljldkknopmfhaa
