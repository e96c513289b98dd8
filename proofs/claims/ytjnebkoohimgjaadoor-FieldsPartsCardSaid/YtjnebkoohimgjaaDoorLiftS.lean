/- Streams, and numbers, as arguments of a law. -/
import Derived.Test.YtjnebkoohimgjaaDoorLift
import Derived.Test.YtjnebkoohimgjaaDoorStrm
import Derived.Lib.SmallJoins
import Derived.Deep.Strs
namespace Go.Proofs.YtjnebkoohimgjaaDoor
open Go.ChangeShapes Go.WideShapes Go.ChangeAt Go.RowKit Go.Joins

def IsStrs (w : World) (v : Value) (ss : List Strm) : Prop := ∃ a c, v = .slice a ss.length c ∧ At w a (scells ss) ∧ ∀ s ∈ ss, At w s.a (s.b.map bv) ∧ s.b.length ≤ s.c
def IsInts (w : World) (v : Value) (l : List Int) : Prop := ∃ a c, v = .slice a l.length c ∧ At w a (l.map iv)
section
variable {H : Type} {enc : TypeId × Value → H} {w : World} {base : Nat} {spare : Nat → Bool} {held : Bool}
theorem isInts_of_trod {fuel : Nat} {v : Value} {x : DataW H × List MemPlace} (h : DataW.trod enc Tryd.prog w base spare held fuel 28 [v] = some x) : ∃ l, IsInts w v l := by
  rcases open_ints Tryd.underlying28 Tryd.underlying3 (by kernel_rfl) h with ⟨hcs, _⟩ | ⟨a, l, c, zs, hcs, _, hl, hm, hz, _, hcell, hwz⟩
  · injection hcs with hcs; subst hcs; exact ⟨[], none, 0, rfl, At.nil _ _⟩
  · injection hcs with hcs; subst hcs
    have hz' : l ≤ zs.length := by rw [hz]; split <;> omega
    refine ⟨zs.take l, some a, c, by simp; omega, fun hp => ?_⟩
    have hp' : 0 < l := by rcases Nat.eq_zero_or_pos l with h | h; simp [h] at hp; exact h
    obtain ⟨b, o, sp⟩ := a
    have h0 := hcell 0 (by omega)
    have hsp : sp = none := by simpa [Addr.add] using World.cell?_spot h0
    subst hsp
    refine ⟨b, o, rfl, fun i hi => ?_⟩
    have hi' : i < l := by simp at hi; omega
    have h1 := hcell i (by omega)
    rw [add_off] at h1
    rw [h1]
    simp [iv, List.getD_eq_getElem?_getD, hi', List.getElem?_eq_getElem (show i < zs.length by omega)]
set_option maxRecDepth 100000 in
theorem isStrm_of_trod {fuel : Nat} {cs : List Value} {x : DataW H × List MemPlace} (h : DataW.trod enc Tryd.prog w base spare held fuel 37 cs = some x) : ∃ s : Strm, cs = s.cells ∧ At w s.a (s.b.map bv) ∧ s.b.length ≤ s.c := by
  obtain ⟨y0, y1, y2, n, _, hl, h0, h1, h2⟩ := Deep.trod_struct3 Tryd.underlying37 h
  obtain ⟨z0, z1, z2, m, _, hl2, k0, k1, k2⟩ := Deep.trod_struct3 Tryd.underlying35 h2
  have hc : cs.length = 5 := hl.trans (by kernel_rfl)
  match cs, hc with
  | [c0, c1, c2, c3, c4], _ =>
    have h0' : DataW.trod enc Tryd.prog w base spare held n 22 [c0] = some y0 := h0
    have h1' : DataW.trod enc Tryd.prog w base spare held n 4 [c1] = some y1 := h1
    have k0' : DataW.trod enc Tryd.prog w base spare held m 33 [c2] = some z0 := k0
    have k1' : DataW.trod enc Tryd.prog w base spare held m 3 [c3] = some z1 := k1
    have k2' : DataW.trod enc Tryd.prog w base spare held m 3 [c4] = some z2 := k2
    obtain ⟨l, a, c, rfl, hlc, _, hat, _⟩ := isB_of_trod Tryd.underlying22 Tryd.underlying5 (by kernel_rfl) h0'
    obtain ⟨b, hb, _⟩ := DataW.trod_bool Tryd.underlying4 h1'
    obtain ⟨n2, e2, _, _⟩ := DataW.trod_int Tryd.underlying33 k0'
    obtain ⟨n3, e3, _, _⟩ := DataW.trod_int Tryd.underlying3 k1'
    obtain ⟨n4, e4, _, _⟩ := DataW.trod_int Tryd.underlying3 k2'
    injection hb with hb; injection e2 with e2; injection e3 with e3; injection e4 with e4
    subst hb; subst e2; subst e3; subst e4
    exact ⟨⟨a, c, l, b, n2, n3, n4⟩, rfl, hat, hlc⟩
theorem scells_at : ∀ (ss : List Strm) (q : Nat), q < ss.length * 5 → ∃ i j, ∃ h : i < ss.length, j < 5 ∧ q = i * 5 + j ∧ (scells ss)[q]? = (ss[i].cells)[j]?
  | [], q, h => by simp at h
  | s :: ss, q, h => by
    by_cases hq : q < 5
    · refine ⟨0, q, by simp, hq, by omega, ?_⟩
      simp only [scells]
      rw [List.getElem?_append_left (by simpa [Strm.cells] using hq)]; rfl
    · obtain ⟨i, j, hi, hj, e, hv⟩ := scells_at ss (q - 5) (by simp at h; omega)
      refine ⟨i + 1, j, by simp; omega, hj, by omega, ?_⟩
      simp only [scells]
      rw [List.getElem?_append_right (by simp [Strm.cells]; omega)]
      simpa [Strm.cells] using hv
theorem isStrs_of_trod {fuel : Nat} {v : Value} {x : DataW H × List MemPlace} (h : DataW.trod enc Tryd.prog w base spare held fuel 25 [v] = some x) : ∃ ss, IsStrs w v ss := by
  rcases Deep.open_slice Tryd.underlying25 h with ⟨hcs, _⟩ | ⟨a, len, cap, m, n, D, Pl, hcs, _, hl, hm, hmm, _, hx⟩
  · injection hcs with hcs; subst hcs; exact ⟨[], none, 0, rfl, At.nil _ _, by simp⟩
  · injection hcs with hcs; subst hcs
    have hmz : len ≤ m := by rw [hmm]; split <;> omega
    have h5 : Tryd.prog.cellsOf 37 = 5 := by kernel_rfl
    obtain ⟨ss, h1, h2⟩ := list_of len (fun i s => (∀ j, j < 5 → w.cell? ((a.add (i * 5)).add j) = (Strm.cells s)[j]?) ∧ At w s.a (s.b.map bv) ∧ s.b.length ≤ s.c) fun i hi => by
      obtain ⟨cs', e1, e2⟩ := hx i (by omega)
      rw [h5] at e1
      obtain ⟨s, rfl, k1, k2⟩ := isStrm_of_trod e2
      exact ⟨s, fun j hj => (World.cells?_some e1).2.2 j hj, k1, k2⟩
    refine ⟨ss, some a, cap, by rw [h1], fun hp => ?_, fun s hs => ?_⟩
    · rw [scells_length] at hp
      obtain ⟨g, o, sp⟩ := a
      have h0 := (h2 0 (by omega)).1 0 (by omega)
      have hsp : sp = none := by
        have h0' : w.cell? ((⟨g, o, sp⟩ : Addr).add (0 * 5) |>.add 0) = some _ := h0
        simpa [Addr.add] using World.cell?_spot h0'
      subst hsp
      refine ⟨g, o, rfl, fun q hq => ?_⟩
      rw [scells_length] at hq
      obtain ⟨i, j, hi, hj, e, hv⟩ := scells_at ss q hq
      have h3 := (h2 i hi).1 j hj
      rw [add_off, add_off] at h3
      rw [List.getD_eq_getElem?_getD, hv, e, ← Nat.add_assoc, h3]
      have hjl : j < (ss[i].cells).length := hj
      obtain ⟨vv, hvv⟩ : ∃ vv, (ss[i].cells)[j]? = some vv := ⟨_, List.getElem?_eq_getElem hjl⟩
      rw [hvv]; rfl
    · obtain ⟨i, hi, rfl⟩ := List.getElem_of_mem hs
      exact (h2 i hi).2
end
end Go.Proofs.YtjnebkoohimgjaaDoor
