/- A disk's counts, and at. -/
import Derived.Test.YtljldkknopmfhaaFilA
namespace Go.Proofs.Ytljldkknopmfhaa
open Go.RowKit Go.Maps Go

/-- A disk's own cells, turned alone. -/
theorem DRep.turn {w w' : World} {d : Nat} {S : List (Int × Int)} {st : DS} {tg : Nat → Nat} {X : DX} (h : DRep w d S st tg X) (f : Fr (fun b _ => b = d) w w') (c : Nat) (i : Int)
    (hd : w'.heap[d]? = some (.cells #[.slice X.sa S.length X.sc, .map (some X.m), .int .i64 st.texts.length, .int .i64 c, .int .i64 i] 80 (0, 0))) :
    DRep w' d S ⟨st.texts, st.there, c, i⟩ tg X := by
  have keep : ∀ {b : Nat} {o : Obj}, w.heap[b]? = some o → tg b ≠ 1 → w'.heap[b]? = some o := fun {b o} hb hn => (f.block b (heap_lt hb) fun o e => by subst e; exact hn h.tgd).trans hb
  refine ⟨fun b hb => Nat.lt_of_lt_of_le (h.lt b hb) f.size, hd, h.tgd, h.tgm, ownsMap_fr h.own f fun o e => ?_, h.scrAt.fr f fun g off e hg i hi e2 => ?_, h.scrTg, h.has, fun k hk => ?_⟩
  · have := h.tgm; rw [e, h.tgd] at this; cases this
  · have h0 : 0 < S.length := by rw [scr_length] at hi; omega
    have := h.scrTg g off e h0
    rw [e2, h.tgd] at this; cases this
  · obtain ⟨p, v, h1, h2, h3, h4, h5⟩ := h.file k hk
    exact ⟨p, v, h1, h2, keep h3 (by rw [h2]; omega), h4.fr f fun b o hb e => by have := h5 b hb; rw [e, h.tgd] at this; omega, h5⟩
def CntPost (w : World) (d : Nat) (S : List (Int × Int)) (st : DS) (tg : Nat → Nat) (X : DX) (e : Ending) (w' : World) : Prop :=
  e = .returned (.int .i64 (countsM S st).2) ∧ DRep w' d S (countsM S st).1 tg X ∧ Fr (fun b _ => b = d) w w'
theorem cells5 {w : World} {d : Nat} {a b c e f : Value} {t : TypeId} (h : w.heap[d]? = some (.cells #[a, b, c, e, f] t (0, 0))) :
    w.cell? ⟨d, 0, none⟩ = some a ∧ w.cell? ⟨d, 1, none⟩ = some b ∧ w.cell? ⟨d, 2, none⟩ = some c ∧ w.cell? ⟨d, 3, none⟩ = some e ∧ w.cell? ⟨d, 4, none⟩ = some f ∧ ∀ o, w.frozen? ⟨d, o, none⟩ = false :=
  ⟨cell_block h 0, cell_block h 1, cell_block h 2, cell_block h 3, cell_block h 4, frozen_block h⟩
set_option maxHeartbeats 1000000 in
set_option maxRecDepth 100000 in
theorem counts_any (d : Nat) (S : List (Int × Int)) (st : DS) (tg : Nat → Nat) (X : DX) (w : World) (h : DRep w d S st tg X) (hl : S.length ≤ 100000) (hc : st.count ≤ 1000000) :
    Calls Try.prog 56 #[.pointer (some ⟨d, 0, none⟩)] w (CntPost w d S st tg X) := by
  have hdl := heap_lt h.disk
  have HIX := Lib.hid (fun (W : World) (f : Fr No (w.alloc (.cells #[.pointer (some ⟨d, 0, none⟩)] 26)) W) =>
    indexF_any X.sa X.sc S w.heap.size d st.count W (at_nf h.scrAt (((Fr.refl No w).alloc _).trans f)) ((box_at f).1 0) (((((Fr.refl No w).alloc _).trans f).at.1 d 3 hdl).trans (cell_block h.disk 3)) hl)
  have HD := Lib.hid (fun (W : World) (f : Fr No (w.alloc (.cells #[.pointer (some ⟨d, 0, none⟩)] 26)) W) => show W.heap[d]? = some (.cells #[.slice X.sa S.length X.sc, .map (some X.m), .int .i64 st.texts.length, .int .i64 st.count, .int .i64 st.id] 80 (0, 0)) ∧ W.cell? ⟨w.heap.size, 0, none⟩ = some (.pointer (some ⟨d, 0, none⟩)) from
    ⟨((((Fr.refl No w).alloc _).trans f).block d hdl (fun _ x => x)).trans h.disk, (box_at f).1 0⟩)
  have hne : d ≠ w.heap.size := by omega
  obtain ⟨k0, k1, k2, k3, k4, kF⟩ := cells5 h.disk
  have H := Lib.hid h
  have hci : (st.count : Int) ≤ 1000000 := by omega
  clear h
  rcases hit_cases S st.count with ⟨h1, h2⟩ | ⟨k, hk, h1, h2⟩
  · have e0 : countsM S st = (⟨st.texts, st.there, st.count + 1, st.id⟩, 0) := by unfold countsM; rw [h1]
    unfold CntPost
    rw [e0]
    rw [h2] at HIX
    clear h1 h2 e0
    go_enter Try.func56, Try.ntmps56
    go_wp2_with (first
      | (go_at_call 82; refine (HIX.out _ (Fr.refl _ _)).mono ?_; rintro e1 w1 ⟨rfl, hf1⟩
         obtain ⟨hD1, cB⟩ := HD.out _ hf1
         obtain ⟨c0, c1, c2, c3, c4, cF⟩ := cells5 hD1
         have HD1 := Lib.hid hD1; have HF1 := Lib.hid hf1; clear hD1 hf1))
    go_ret
    have f2 : Fr No w w1 := ((Fr.refl No w).alloc _).trans HF1.out
    have f3 : Fr (fun b _ => b = d) w (w1.setCell ⟨d, 3, none⟩ (.int .i64 ((st.count : Int) + 1))) := (f2.mono (T := fun b _ => b = d) (fun _ _ _ x => x.elim)).setCell (fun _ => rfl) _
    refine ⟨rfl, H.out.turn f3 _ _ ?_, f3⟩
    rw [setCell_eq_setRow w1 d 3 _ _ _ _ HD1.out]
    exact setRow_heap w1 d _ _ _ _ HD1.out
  · have e0 : countsM S st = (⟨st.texts, st.there, st.count + 1, (S[k]).2⟩, 25) := by unfold countsM; rw [h1]
    have hs : 0 < (scr S).length := by rw [scr_length]; omega
    obtain ⟨g, off, ha, hr⟩ := H.out.scrAt hs
    have HR := Lib.hid (fun (W : World) (f : Fr No w W) => scr_cell (hr.fr f (fun _ _ x => x)) hk)
    have hgd : g ≠ d := by
      intro e; have h3 := H.out.scrTg g off ha (by omega); rw [e, H.out.tgd] at h3; cases h3
    unfold CntPost
    rw [e0]
    rw [h2] at HIX
    clear h1 h2 e0 hs hr
    generalize S[k] = x at *
    obtain ⟨x1, x2⟩ := x
    obtain ⟨sa, sc, m, D⟩ := X
    dsimp only at *
    subst ha
    go_enter Try.func56, Try.ntmps56
    go_wp2_with (first
      | (go_at_call 82; refine (HIX.out _ (Fr.refl _ _)).mono ?_; rintro e1 w1 ⟨rfl, hf1⟩
         obtain ⟨hD1, cB⟩ := HD.out _ hf1
         obtain ⟨c0, c1, c2, c3, c4, cF⟩ := cells5 hD1
         obtain ⟨r1, r2⟩ := HR.out _ (((Fr.refl No w).alloc _).trans hf1)
         have HD1 := Lib.hid hD1; have HF1 := Lib.hid hf1; clear hD1 hf1))
    have KW := Lib.hid (show Fr No w w1 from ((Fr.refl No w).alloc _).trans HF1.out)
    go_region
    go_wp2
    go_ret
    have h3 : (w1.setCell ⟨d, 3, none⟩ (.int .i64 ((st.count : Int) + 1))).heap[d]? = some (.cells #[.slice (some ⟨g, off, none⟩) S.length sc, .map (some m), .int .i64 st.texts.length, .int .i64 ((st.count : Int) + 1), .int .i64 st.id] 80 (0, 0)) := by
      rw [setCell_eq_setRow w1 d 3 _ _ _ _ HD1.out]
      exact setRow_heap w1 d _ _ _ _ HD1.out
    have f3 : Fr (fun b _ => b = d) w (((w1.setCell ⟨d, 3, none⟩ (.int .i64 ((st.count : Int) + 1))).setCell ⟨d, 4, none⟩ (.int .i64 x2)).drew) := (((KW.out.mono (T := fun b _ => b = d) (fun _ _ _ x => x.elim)).setCell (fun _ => rfl) _).setCell (fun _ => rfl) _).drew
    refine ⟨rfl, H.out.turn f3 _ _ ?_, f3⟩
    show ((w1.setCell ⟨d, 3, none⟩ (.int .i64 ((st.count : Int) + 1))).setCell ⟨d, 4, none⟩ (.int .i64 x2)).heap[d]? = _
    rw [setCell_eq_setRow _ d 4 _ _ _ _ h3]
    exact setRow_heap _ d _ _ _ _ h3

/-- The file at a number. -/
def AtPost (w : World) (p : Option Addr) (e : Ending) (w' : World) : Prop := e = .returned (.pointer p) ∧ Fr No w w'
theorem key_of (no : Int) (hw : (Lit.int .i64 no).wf = true) : keyOf Try.prog 3 (.int .i64 no) = some (.int .i64 no) := keyOf_int_mk Try.underlying3 hw
theorem at_run {d : Nat} {S : List (Int × Int)} {st : DS} {tg : Nat → Nat} {X : DX} {w W : World} (h : DRep w d S st tg X) (f : Fr No w W) (no : Int) (hw : (Lit.int .i64 no).wf = true) :
    (st.is no = false → (Instr.lookup 78 (.map (some X.m)) (.int .i64 no) false).run Try.prog W = .ok (.pointer none) W) ∧
    (∀ p : Nat, st.is no = true → X.D.atKey (.int .i64 no) (.lit (.int .i64 (-1))) = .lit (.int .i64 p) → (Instr.lookup 78 (.map (some X.m)) (.int .i64 no) false).run Try.prog W = .ok (.pointer (some ⟨p, 0, none⟩)) W) := by
  have own := ownsMap_fr h.own f (fun _ x => x)
  obtain ⟨v, ps, hrun, hv⟩ := own.lookup (int_keyed Try.underlying3) Try.underlying78 (z := .pointer none) (by simp [zeroValue, typeInfo]; kernel_rfl) (zd := .lit (.int .i64 (-1))) (zp := []) rfl (key_of no hw)
  constructor
  · intro hno
    rw [atKey_of_not_has (by rw [h.has]; exact hno)] at hv
    rcases ptrR_inv hv with ⟨rfl, _⟩ | ⟨b, _, e⟩
    · exact hrun
    · omega
  · intro p hno hp
    rw [hp] at hv
    rcases ptrR_inv hv with ⟨_, e⟩ | ⟨b, rfl, e⟩
    · omega
    · obtain rfl : b = p := by omega
      exact hrun
end Go.Proofs.Ytljldkknopmfhaa
