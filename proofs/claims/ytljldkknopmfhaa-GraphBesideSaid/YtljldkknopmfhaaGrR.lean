/- Graphs: rows of ducts in memory. -/
import Derived.Test.YtljldkknopmfhaaGrPl
import Derived.Test.YtljldkknopmfhaaLiftG
import Derived.Test.YtljldkknopmfhaaRows
namespace Go.Proofs.Ytljldkknopmfhaa
open Go.RowKit

def iv (x : Int) : Value := .int .i64 x
theorem heap_lt {w : World} {b : Nat} {o : Obj} (h : w.heap[b]? = some o) : b < w.heap.size := (Array.getElem?_eq_some_iff.1 h).1
/-- n cells. -/
def tabC (n : Nat) (f : Nat → Value) : Array Value := ((List.range n).map f).toArray
theorem tabC_size (n : Nat) (f : Nat → Value) : (tabC n f).size = n := by simp [tabC]
theorem tabC_get {n : Nat} (f : Nat → Value) {k : Nat} (h : k < n) : (tabC n f)[k]? = some (f k) := by simp [tabC, h]
theorem tabC_set {n : Nat} (f : Nat → Value) {k : Nat} (v : Value) : (tabC n f).setIfInBounds k v = tabC n (fun j => if j = k then v else f j) := by
  apply Array.ext
  · simp [tabC]
  · intro i h1 h2
    rw [Array.getElem_setIfInBounds]
    simp only [tabC, List.getElem_toArray, List.getElem_map, List.getElem_range]
    split
    · rename_i e; subst e; simp
    · rename_i e; rw [if_neg (fun x => e x.symm)]
    · simpa [tabC] using h1
theorem tabC_congr {n : Nat} {f f' : Nat → Value} (h : ∀ k, k < n → f k = f' k) : tabC n f = tabC n f' := by
  unfold tabC
  rw [List.map_congr_left fun k hk => h k (List.mem_range.1 hk)]
theorem tabC_all {n : Nat} {f : Nat → Value} (h : ∀ k, k < n → (f k).oneCell' = true) : (tabC n f).all (·.oneCell') = true := by
  simp only [tabC, List.all_toArray, List.all_eq_true, List.mem_map, List.mem_range]
  rintro v ⟨k, hk, rfl⟩
  exact h k hk
theorem block_set {w : World} {b k : Nat} {n : Nat} {f : Nat → Value} {t : TypeId} (h : w.heap[b]? = some (.cells (tabC n f) t (0, 0))) (v : Value) :
    (w.setCell ⟨b, k, none⟩ v).heap[b]? = some (.cells (tabC n (fun j => if j = k then v else f j)) t (0, 0)) := by
  rw [setCell_eq_setRow w b k _ _ (0, 0) _ h, setRow_heap w b _ _ _ _ h, tabC_set]

theorem row_at_heap {w : World} {b : Nat} {vs : List Value} {t : TypeId} (h : w.heap[b]? = some (.cells vs.toArray t (0, 0))) : Row w b 0 vs := by
  refine (row_of_heap h).2 ?_
  rw [List.drop_zero]; exact List.take_length
/-- A row of ducts in a block of its own, or none. -/
def Rw (w : World) (lo : Nat) (v : Value) (xs : List Int) : Prop :=
  (v = .slice none 0 0 ∧ xs = []) ∨ ∃ b, v = .slice (some ⟨b, 0, none⟩) xs.length xs.length ∧ lo ≤ b ∧ w.heap[b]? = some (.cells (xs.map iv).toArray 3 (0, 0))
theorem Rw.fr {S : Nat → Nat → Prop} {w w' : World} {lo : Nat} {v : Value} {xs : List Int} (h : Rw w lo v xs) (f : Fr S w w') (hS : ∀ b, v.ownBlock = some b → ∀ o, ¬ S b o) : Rw w' lo v xs := by
  rcases h with h | ⟨b, rfl, h1, h2⟩
  · exact .inl h
  · exact .inr ⟨b, rfl, h1, (f.block b (heap_lt h2) (hS b rfl)).trans h2⟩
theorem Rw.slice {w : World} {lo : Nat} {v : Value} {xs : List Int} (h : Rw w lo v xs) : ∃ a, v = .slice a xs.length xs.length ∧ At w a (xs.map iv) := by
  rcases h with ⟨rfl, rfl⟩ | ⟨b, rfl, h1, h2⟩
  · exact ⟨none, rfl, At.nil _ _⟩
  · exact ⟨_, rfl, fun _ => ⟨b, 0, rfl, row_at_heap h2⟩⟩
theorem Rw.one {w : World} {lo : Nat} {v : Value} {xs : List Int} (h : Rw w lo v xs) : v.oneCell' = true := by
  rcases h with ⟨rfl, rfl⟩ | ⟨b, rfl, h1, h2⟩ <;> rfl
theorem Rw.lt {w : World} {lo : Nat} {v : Value} {xs : List Int} (h : Rw w lo v xs) {b : Nat} (hb : v.ownBlock = some b) : lo ≤ b ∧ b < w.heap.size ∧ ∃ cs, w.heap[b]? = some (.cells cs 3 (0, 0)) := by
  rcases h with ⟨rfl, rfl⟩ | ⟨g, rfl, h1, h2⟩
  · cases hb
  · injection hb with hb; subst hb; exact ⟨h1, heap_lt h2, _, h2⟩
/-- The ports' table. -/
structure PT (w : World) (lo bp : Nat) (f : Nat → Value) (T : Nat → List Int) : Prop where
  box : w.heap[bp]? = some (.cells (tabC 32 f) 102 (0, 0))
  row : ∀ s, s < 32 → Rw w lo (f s) (T s)
  ne : ∀ s t, s < 32 → t < 32 → s ≠ t → ∀ b, (f s).ownBlock = some b → (f t).ownBlock ≠ some b
theorem pt_start {w : World} {lo bp : Nat} (h : w.heap[bp]? = some (.cells (tabC 32 fun _ => .slice none 0 0) 102 (0, 0))) : PT w lo bp (fun _ => .slice none 0 0) (fun _ => []) :=
  ⟨h, fun _ _ => .inl ⟨rfl, rfl⟩, fun s t _ _ _ b hb => by cases hb⟩
theorem PT.low {w w' : World} {lo bp : Nat} {f : Nat → Value} {T : Nat → List Int} {S : Nat → Nat → Prop} (h : PT w lo bp f T) (k : Fr S w w') (hS : ∀ b o, b < w.heap.size → ¬ S b o) : PT w' lo bp f T :=
  ⟨(k.block bp (heap_lt h.box) fun o => hS bp o (heap_lt h.box)).trans h.box, fun s hs => (h.row s hs).fr k fun b hb o => hS b o ((h.row s hs).lt hb).2.1, h.ne⟩
theorem PT.fr {w w' : World} {lo bp : Nat} {f : Nat → Value} {T : Nat → List Int} (h : PT w lo bp f T) (k : Fr No w w') : PT w' lo bp f T := h.low k fun _ _ _ x => x
theorem PT.cell {w : World} {lo bp : Nat} {f : Nat → Value} {T : Nat → List Int} (h : PT w lo bp f T) {s : Nat} (hs : s < 32) : w.cell? ⟨bp, s, none⟩ = some (f s) ∧ w.frozen? ⟨bp, s, none⟩ = false :=
  ⟨(cell_block h.box s).trans (tabC_get f hs), frozen_block h.box s⟩
theorem PT.nebp {w : World} {lo bp : Nat} {f : Nat → Value} {T : Nat → List Int} (h : PT w lo bp f T) (hty : (102 : Nat) ≠ 3) {s : Nat} (hs : s < 32) {b : Nat} (hb : (f s).ownBlock = some b) : b ≠ bp := by
  intro e; subst e
  obtain ⟨_, _, cs, h1⟩ := (h.row s hs).lt hb
  rw [h.box] at h1
  injection h1 with h1; injection h1 with h1 h2
  exact hty h2
theorem types_differ : (102 : Nat) ≠ 3 := by decide
/-- A row of one's own is laid at a stage's port. -/
theorem PT.put {w : World} {lo bp : Nat} {f : Nat → Value} {T : Nat → List Int} (h : PT w lo bp f T) {s b : Nat} {xs : List Int} (hlo : lo ≤ b) (hne : b ≠ bp) (hfree : ∀ t, t < 32 → (f t).ownBlock ≠ some b)
    (hh : w.heap[b]? = some (.cells (xs.map iv).toArray 3 (0, 0))) (v : Value) (hv : v = .slice (some ⟨b, 0, none⟩) xs.length xs.length) :
    PT (w.setCell ⟨bp, s, none⟩ v) lo bp (fun j => if j = s then v else f j) (fun j => if j = s then xs else T j) := by
  subst hv
  refine ⟨block_set h.box _, fun t ht => ?_, fun t u ht hu htu q hq => ?_⟩
  · have hfs := frSet w bp s (.slice (some ⟨b, 0, none⟩) xs.length xs.length)
    split
    · refine .inr ⟨b, rfl, by omega, ?_⟩
      exact (hfs.block b (heap_lt hh) (fun o e => hne e.1)).trans hh
    · exact (h.row t ht).fr hfs fun q hq o e => h.nebp types_differ ht hq e.1
  · try dsimp only at hq ⊢
    by_cases e1 : t = s
    · rw [if_pos e1] at hq
      injection hq with hq; simp only at hq; subst hq
      rw [if_neg (by omega)]
      exact hfree u hu
    · rw [if_neg e1] at hq
      by_cases e2 : u = s
      · rw [if_pos e2]
        intro hx
        injection hx with hx; simp only at hx; subst hx
        exact hfree t ht hq
      · rw [if_neg e2]; exact h.ne t u ht hu htu q hq
theorem PT.far {w : World} {lo bp : Nat} {f : Nat → Value} {T : Nat → List Int} (h : PT w lo bp f T) {b : Nat} (hb : w.heap.size ≤ b) : b ≠ bp ∧ ∀ t, t < 32 → (f t).ownBlock ≠ some b :=
  ⟨by have := heap_lt h.box; omega, fun t ht e => by have := ((h.row t ht).lt e).2.1; omega⟩
/-- A duct is laid in a row. -/
theorem PT.set {w : World} {lo bp : Nat} {f : Nat → Value} {T : Nat → List Int} (h : PT w lo bp f T) {s b o : Nat} (hs : s < 32) (hv : (f s).ownBlock = some b) (x : Int) :
    PT (w.setCell ⟨b, o, none⟩ (iv x)) lo bp f (fun j => if j = s then (T s).set o x else T j) := by
  have hfs := frSet w b o (iv x)
  have hne := h.nebp types_differ hs hv
  refine ⟨(hfs.block bp (heap_lt h.box) (fun o e => hne e.1.symm)).trans h.box, fun t ht => ?_, h.ne⟩
  split
  · rename_i e; subst e
    rcases h.row t hs with ⟨e1, e2⟩ | ⟨g, e1, e2, e3⟩
    · rw [e1] at hv; cases hv
    · rw [e1] at hv; injection hv with hv; simp only at hv; subst hv
      refine .inr ⟨g, by rw [e1]; simp, e2, ?_⟩
      rw [setCell_eq_setRow w g o _ _ (0, 0) _ e3, setRow_heap w g _ _ _ _ e3]
      congr 2
      simp [List.map_set]
  · rename_i e
    exact (h.row t ht).fr hfs fun q hq o' e' => h.ne s t hs ht (fun e2 => e e2.symm) b hv (by rw [hq, e'.1])
theorem PT.congr {w : World} {lo bp : Nat} {f : Nat → Value} {T T' : Nat → List Int} (h : PT w lo bp f T) (e : ∀ s, s < 32 → T' s = T s) : PT w lo bp f T' :=
  ⟨h.box, fun s hs => by rw [e s hs]; exact h.row s hs, h.ne⟩
/-- The slot of a row. -/
theorem PT.slot {w : World} {lo bp : Nat} {f : Nat → Value} {T : Nat → List Int} (h : PT w lo bp f T) {s : Nat} (hs : s < 32) : ∃ a, f s = .slice a (T s).length (T s).length ∧ At w a ((T s).map iv) := (h.row s hs).slice

/-- A graph that is gone through. -/
structure Sml (x : Gv) : Prop where
  s : x.sp.length ≤ 200
  d : x.du.length ≤ 200
  b : ∀ s ∈ x.sp, s.s.A.length ≤ 2000 ∧ s.s.B.length ≤ 2000
theorem Sp.Ok.fr {w w' : World} {s : Sp} (h : s.Ok w) (f : Fr No w w') : s.Ok w' := ⟨h.1.fr f (fun _ _ _ _ _ _ x => x), h.2.1.fr f (fun _ _ _ _ _ _ x => x), h.2.2⟩
theorem Gv.Ok.fr {w w' : World} {x : Gv} (h : x.Ok w) (f : Fr No w w') : x.Ok w' :=
  ⟨h.st.fr f (fun _ _ _ _ _ _ x => x), h.du.fr f (fun _ _ _ _ _ _ x => x), fun s hs => (h.sp s hs).fr f, h.dc⟩
theorem sp_len (x : Sp) : x.cells.length = 4 := rfl
theorem dc_len (x : Dct) : x.cells.length = 5 := rfl
theorem sp_cells {w : World} {g off : Nat} {l : List Sp} (h : Row w g off (l.flatMap Sp.cells)) {k : Nat} (hk : k < l.length) :
    w.cell? ⟨g, off + k * 4, none⟩ = some (.int .i64 (l[k]).s.k) ∧ w.cell? ⟨g, off + k * 4 + 1, none⟩ = some (.int .i64 (l[k]).s.n) ∧ w.cell? ⟨g, off + k * 4 + 2, none⟩ = some (.slice (l[k]).aA (l[k]).s.A.length (l[k]).cA) ∧
    w.cell? ⟨g, off + k * 4 + 3, none⟩ = some (.slice (l[k]).aB (l[k]).s.B.length (l[k]).cB) :=
  ⟨h.flat sp_len hk (j := 0) (by decide) rfl, h.flat sp_len hk (j := 1) (by decide) rfl, h.flat sp_len hk (j := 2) (by decide) rfl, h.flat sp_len hk (j := 3) (by decide) rfl⟩
theorem dc_cells {w : World} {g off : Nat} {l : List Dct} (h : Row w g off (l.flatMap Dct.cells)) {k : Nat} (hk : k < l.length) :
    w.cell? ⟨g, off + k * 5, none⟩ = some (.int .i64 (l[k]).frm) ∧ w.cell? ⟨g, off + k * 5 + 1, none⟩ = some (.int .i64 (l[k]).out) ∧ w.cell? ⟨g, off + k * 5 + 2, none⟩ = some (.int .i64 (l[k]).to) ∧
    w.cell? ⟨g, off + k * 5 + 3, none⟩ = some (.int .i64 (l[k]).inn) ∧ w.cell? ⟨g, off + k * 5 + 4, none⟩ = some (.int .i64 (l[k]).cap) :=
  ⟨h.flat dc_len hk (j := 0) (by decide) rfl, h.flat dc_len hk (j := 1) (by decide) rfl, h.flat dc_len hk (j := 2) (by decide) rfl, h.flat dc_len hk (j := 3) (by decide) rfl, h.flat dc_len hk (j := 4) (by decide) rfl⟩
theorem Gv.s_at {x : Gv} {k : Nat} (hk : k < x.sp.length) : x.g.s k = (x.sp[k]).s := by
  simp [Gv.g, Gr.s, List.getD_eq_getElem?_getD, hk]
theorem Gv.d_at {x : Gv} {k : Nat} (hk : k < x.du.length) : x.g.d k = x.du[k] := by
  simp [Gv.g, Gr.d, List.getD_eq_getElem?_getD, hk]
theorem Gv.st_len (x : Gv) : x.g.st.length = x.sp.length := by simp [Gv.g]
theorem Gv.du_len (x : Gv) : x.g.du.length = x.du.length := rfl
end Go.Proofs.Ytljldkknopmfhaa
