/- A disk as it lies in memory. -/
import Derived.Test.YtljldkknopmfhaaFilM
import Derived.Test.YtljldkknopmfhaaRows
import Derived.Maps.OwnSet
import Derived.Maps.OwnOps
namespace Go.Proofs.Ytljldkknopmfhaa
open Go.RowKit Go.Maps Go

/-- How a file's pointer reads: by its block. -/
def ptrR (v : Value) : Option (DataW Unit × List MemPlace) :=
  match v with
  | .pointer none => some (.lit (.int .i64 (-1)), [])
  | .pointer (some ⟨b, 0, none⟩) => some (.lit (.int .i64 b), [])
  | _ => none
theorem ptrR_inv {v : Value} {c : Int} {ps : List MemPlace} (h : ptrR v = some (.lit (.int .i64 c), ps)) : (v = .pointer none ∧ c = -1) ∨ ∃ b : Nat, v = .pointer (some ⟨b, 0, none⟩) ∧ c = b := by
  unfold ptrR at h
  split at h
  · cases h; exact .inl ⟨rfl, rfl⟩
  · rename_i b; cases h; exact .inr ⟨b, rfl, rfl⟩
  · cases h

/-- A script's cells. -/
def scr (S : List (Int × Int)) : List Value := S.flatMap fun f => [.int .i64 f.1, .int .i64 f.2]
theorem scr_length : ∀ S : List (Int × Int), (scr S).length = S.length * 2
  | [] => rfl
  | f :: S => by
    have ih := scr_length S
    simp only [scr, List.flatMap_cons, List.length_append, List.length_cons, List.length_nil] at ih ⊢
    omega
theorem scr_get : ∀ (S : List (Int × Int)) (i : Nat) (h : i < S.length), (scr S)[2 * i]? = some (.int .i64 (S[i]).1) ∧ (scr S)[2 * i + 1]? = some (.int .i64 (S[i]).2)
  | [], i, h => by simp at h
  | f :: S, 0, _ => by simp [scr]
  | f :: S, i + 1, h => by
    have ih := scr_get S i (by simpa using h)
    have e1 : scr (f :: S) = [.int .i64 f.1, .int .i64 f.2] ++ scr S := by simp [scr]
    rw [e1, List.getElem?_append_right (by simp; omega), List.getElem?_append_right (by simp; omega)]
    simp only [List.length_cons, List.length_nil, List.getElem_cons_succ]
    rw [show 2 * (i + 1) - (0 + 1 + 1) = 2 * i from by omega, show 2 * (i + 1) + 1 - (0 + 1 + 1) = 2 * i + 1 from by omega]
    exact ih

/-- Where a disk's parts lie. -/
structure DX where
  sa : Option Addr
  sc : Nat
  m : Nat
  D : DataW Unit
/-- A disk, at block d: its script S, its state st; tg tells which block is which part's. -/
structure DRep (w : World) (d : Nat) (S : List (Int × Int)) (st : DS) (tg : Nat → Nat) (X : DX) : Prop where
  lt : ∀ b, tg b ≠ 0 → b < w.heap.size
  disk : w.heap[d]? = some (.cells #[.slice X.sa S.length X.sc, .map (some X.m), .int .i64 st.texts.length, .int .i64 st.count, .int .i64 st.id] 80 (0, 0))
  tgd : tg d = 1
  tgm : tg X.m = 2
  own : w.ownsMap Try.prog 3 ptrR X.m st.texts.length X.D
  scrAt : At w X.sa (scr S)
  scrTg : ∀ g off, X.sa = some ⟨g, off, none⟩ → 0 < S.length → tg g = 3
  has : ∀ no : Int, Maps.has X.D (.int .i64 no) = st.is no
  file : ∀ k : Nat, st.is k = true → ∃ (f : Nat) (v : Value), X.D.atKey (.int .i64 k) (.lit (.int .i64 (-1))) = .lit (.int .i64 f) ∧ tg f = 4 + 2 * k ∧ w.heap[f]? = some (.cells #[v] 86 (0, 0)) ∧
    OwnSl w 5 1 v (st.text k).length ((st.text k).map bv) ∧ ∀ b, v.ownBlock = some b → tg b = 5 + 2 * k
/-- The blocks that are some part's. -/
def Tg (tg : Nat → Nat) : Nat → Nat → Prop := fun b _ => tg b ≠ 0
theorem ownsMap_fr {S : Nat → Nat → Prop} {w w' : World} {P : Program} {k : TypeId} {R : Value → Option (DataW Unit × List MemPlace)} {b n : Nat} {D : DataW Unit} (h : w.ownsMap P k R b n D) (f : Fr S w w') (hS : ∀ o, ¬ S b o) : w'.ownsMap P k R b n D := by
  have hb := h.lt
  obtain ⟨es, clock, h1, r⟩ := h
  exact ⟨es, clock, (f.block b hb hS).trans h1, r⟩
theorem heap_lt {w : World} {b : Nat} {o : Obj} (h : w.heap[b]? = some o) : b < w.heap.size := (Array.getElem?_eq_some_iff.1 h).1
theorem DRep.fr {w w' : World} {d : Nat} {T : List (Int × Int)} {st : DS} {tg : Nat → Nat} {X : DX} {S : Nat → Nat → Prop} (h : DRep w d T st tg X) (f : Fr S w w') (hS : ∀ b o, tg b ≠ 0 → ¬ S b o) : DRep w' d T st tg X := by
  have keep : ∀ {b : Nat} {o : Obj}, w.heap[b]? = some o → tg b ≠ 0 → w'.heap[b]? = some o := fun {b o} hb hn => (f.block b (heap_lt hb) fun o => hS b o hn).trans hb
  refine ⟨fun b hb => Nat.lt_of_lt_of_le (h.lt b hb) f.size, keep h.disk (by rw [h.tgd]; decide), h.tgd, h.tgm, ownsMap_fr h.own f fun o => hS _ o (by rw [h.tgm]; decide), ?_, h.scrTg, h.has, fun k hk => ?_⟩
  · refine h.scrAt.fr f fun g off e hg i hi => hS _ _ ?_
    have : 0 < T.length := by rw [scr_length] at hi; omega
    rw [h.scrTg g off e this]; decide
  · obtain ⟨p, v, h1, h2, h3, h4, h5⟩ := h.file k hk
    have hv : ∀ b, v.ownBlock = some b → tg b ≠ 0 := fun b hb => by rw [h5 b hb]; omega
    exact ⟨p, v, h1, h2, keep h3 (by rw [h2]; omega), h4.fr f fun b o hb => hS b o (hv b hb), h5⟩
/-- The file at a number that is one's. -/
theorem DRep.at {w : World} {d : Nat} {T : List (Int × Int)} {st : DS} {tg : Nat → Nat} {X : DX} (h : DRep w d T st tg X) {no : Int} (hno : st.is no = true) :
    ∃ (k f : Nat) (v : Value), no = k ∧ X.D.atKey (.int .i64 no) (.lit (.int .i64 (-1))) = .lit (.int .i64 f) ∧ tg f = 4 + 2 * k ∧ w.heap[f]? = some (.cells #[v] 86 (0, 0)) ∧
    OwnSl w 5 1 v (st.text no).length ((st.text no).map bv) ∧ ∀ b, v.ownBlock = some b → tg b = 5 + 2 * k := by
  have h0 : 1 ≤ no := by
    unfold DS.is at hno
    simp only [Bool.and_eq_true, decide_eq_true_eq] at hno
    exact hno.1.1
  obtain ⟨k, rfl⟩ : ∃ k : Nat, no = k := ⟨no.toNat, by omega⟩
  obtain ⟨f, v, r⟩ := h.file k hno
  exact ⟨k, f, v, rfl, r⟩

theorem at_nf {w W : World} {a : Option Addr} {vs : List Value} (h : At w a vs) (f : Fr No w W) : At W a vs := h.fr f (fun _ _ _ _ _ _ x => x)
end Go.Proofs.Ytljldkknopmfhaa
