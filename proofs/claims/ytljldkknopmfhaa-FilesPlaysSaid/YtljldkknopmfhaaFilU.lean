/- The document's disk: Read, Create, Live; the laws' ints. -/
import Derived.Test.YtljldkknopmfhaaFilT
import Derived.Laws.IdiomStrings
namespace Go.Proofs.Ytljldkknopmfhaa
open Go.RowKit Go.Maps Go

def iv (n : Int) : Value := .int .i64 n
def RReadPost (w : World) (r : Nat) (S : List (Int × Int)) (x : DS × List UInt8 × Int) (tg : Nat → Nat) (X : RX) (e : Ending) (w' : World) : Prop :=
  ∃ a c, e = .returned (.tuple #[.slice a x.2.1.length c, .int .i64 x.2.2]) ∧ At w' a (x.2.1.map bv) ∧ RRep w' r S x.1 tg X ∧ Fr (fun b _ => b = r) w w'
theorem rread_none {w w' : World} {r : Nat} {S : List (Int × Int)} {st : DS} {tg : Nat → Nat} {X : RX} {er : Int} (h : RRep w' r S st tg X) (f : Fr (fun b _ => b = r) w w') :
    RReadPost w r S (st, [], er) tg X (.returned (.tuple #[.slice none 0 0, .int .i64 er])) w' := ⟨none, 0, rfl, At.nil _ _, h, f⟩
theorem bytes_new (w : World) (s : List UInt8) (c : Nat) (e : TypeId) (f : Nat × Nat) : At (w.alloc (.cells (bytesRow ⟨s.toArray⟩ c) e f)) (some ⟨w.heap.size, 0, none⟩) (s.map bv) := by
  refine fun _ => ⟨w.heap.size, 0, rfl, (row_of_heap (heap_alloc_new w _)).2 ?_⟩
  unfold bytesRow
  simp [bv, Function.comp_def]
set_option maxHeartbeats 4000000 in
set_option maxRecDepth 100000 in
theorem rread_any (r : Nat) (S : List (Int × Int)) (st : DS) (tg : Nat → Nat) (X : RX) (w : World) (h : RRep w r S st tg X) (hlen : st.there.length = st.texts.length) (h64 : st.texts.length ≤ 64) (hl : S.length ≤ 100000) (hc : st.count ≤ 1000000)
    (hsz : ∀ no, (st.text no).length ≤ 1000000) (no po mo : Int) :
    Calls Try.prog 65 #[.pointer (some ⟨r, 0, none⟩), .int .i64 no, .int .i64 po, .int .i64 mo] w (RReadPost w r S (readM S st no po mo) tg X) := by
  have H := Lib.hid h
  have HIS := Lib.hid (ris_any r S st tg X w h hlen no h64)
  have HCN := Lib.hid (rcounts_any r S st tg X w h hl hc)
  unfold RCntPost at HCN
  have hsp := is_split st no
  cases hno : st.is no with
  | false =>
    have e0 : readM S st no po mo = (st, [], 1) := by unfold readM; rw [if_pos (.inl hno)]
    rw [e0]
    rw [hno] at HIS
    clear h hno e0 hlen hsp HCN
    go_enter Try.func65, Try.ntmps65
    go_wp2_with (go_at_call 91; refine HIS.out.mono ?_; rintro e1 w1 ⟨rfl, rfl⟩)
    go_ret2
    exact rread_none H.out (Fr.refl _ _)
  | true =>
    rw [hno] at HIS hsp
    obtain ⟨j, rfl, hj, _⟩ : ∃ j : Nat, no = (j : Int) + 1 ∧ j < st.texts.length ∧ True := by
      rcases hsp with ⟨_, e⟩ | ⟨_, e⟩ | ⟨j, e1, e2, _⟩
      · cases e
      · cases e
      · exact ⟨j, e1, e2, trivial⟩
    have htx0 : st.text ((j : Int) + 1) = st.texts[j] := by
      unfold DS.text
      rw [show ((j : Int) + 1).toNat - 1 = j from by omega, List.getD_eq_getElem?_getD, List.getElem?_eq_getElem hj]; rfl
    have e00 : readM S st ((j : Int) + 1) po mo = if po < 0 ∨ ((st.texts[j]).length : Int) < po ∨ mo < 1 then (st, [], 1)
        else if (countsM S st).2 = 0 then ((countsM S st).1, ((st.texts[j]).drop po.toNat).take mo.toNat, 0) else ((countsM S st).1, [], 25) := by
      unfold readM; rw [hno, htx0]; simp
    rw [e00]
    have htl : st.texts[j].length ≤ 1000000 := by rw [← htx0]; exact hsz _
    have hj2 : (j : Int) < st.texts.length := by omega
    obtain ⟨g, o, hg, -, -⟩ := h.txt.get (j := j) hj
    have HCE := Lib.hid (fun (W : World) (s' : DS) (e : s'.texts = st.texts) (hr : RRep W r S s' tg X) => show W.cell? ⟨g, o + j, none⟩ = some (sv st.texts[j]) from by
      obtain ⟨g', o', hg', hc', hz'⟩ := hr.txt.get (j := j) (by rw [e]; exact hj)
      rw [hg] at hg'
      injection hg' with e3; injection e3 with e1 e2; subst e1; subst e2
      refine hc'.trans ?_
      rw [e, List.getD_eq_getElem?_getD, List.getElem?_map, List.getElem?_eq_getElem hj]; rfl)
    obtain ⟨k0, k1, k2, k3, k4, kF⟩ := cells5 h.disk
    have hc0 := HCE.out w st rfl h
    rw [hg] at k1
    clear h hsp e00 htx0 hno
    generalize st.texts[j] = tx at *
    have HLE := Lib.hid hlen; clear hlen
    have HG := Lib.hid hg; clear hg
    by_cases h1 : po < 0
    · rw [if_pos (.inl h1)]
      clear HCN
      go_enter Try.func65, Try.ntmps65
      go_wp2_with (go_at_call 91; refine HIS.out.mono ?_; rintro e1 w1 ⟨rfl, rfl⟩)
      go_ret2
      exact rread_none H.out (Fr.refl _ _)
    · obtain ⟨q, rfl⟩ : ∃ q : Nat, po = q := ⟨po.toNat, by omega⟩
      clear h1
      by_cases h2 : tx.length < q
      · rw [if_pos (.inr (.inl (by omega)))]
        have h2i : (tx.length : Int) < q := by omega
        clear HCN
        go_enter Try.func65, Try.ntmps65
        go_wp2_with (go_at_call 91; refine HIS.out.mono ?_; rintro e1 w1 ⟨rfl, rfl⟩)
        go_ret2
        exact rread_none H.out (Fr.refl _ _)
      · have h2i : ¬ (tx.length : Int) < q := by omega
        have h2d : decide ((tx.length : Int) < q) = false := decide_eq_false h2i
        by_cases h3 : mo < 1
        · rw [if_pos (.inr (.inr h3))]
          clear HCN
          go_enter Try.func65, Try.ntmps65
          go_wp2_with (go_at_call 91; refine HIS.out.mono ?_; rintro e1 w1 ⟨rfl, rfl⟩)
          go_ret2
          exact rread_none H.out (Fr.refl _ _)
        · have h3d : decide (mo < 1) = false := decide_eq_false h3
          rw [if_neg (by omega)]
          rcases countsM_cases S st with ⟨h4, h5⟩ | ⟨i, h4, h5⟩
          · rw [h5] at HCN ⊢
            rw [if_pos rfl, show ((q : Int)).toNat = q from by omega]
            obtain ⟨m, rfl⟩ : ∃ m : Nat, mo = m := ⟨mo.toNat, by omega⟩
            rw [show ((m : Int)).toNat = m from by omega]
            have hs1 : ∀ W : World, (Instr.slice 9 (sv tx) (some (.int .i64 q)) none none).run Try.prog W = .ok (sv (tx.drop q)) W := fun W => by
              have h := run_slice_string_l (P := Try.prog) W 9 ⟨tx.toArray⟩ Try.underlying9 .i64 (q : Int) (by omega) (by rw [size_mk]; omega)
              refine h.trans ?_
              rw [ByteArray.extract_mk]
              simp [size_mk]
              exact List.take_of_length_le (by simp)
            have hcv : ∀ (W : World) (s : List UInt8), (convert 9 29 (sv s)).run Try.prog W = _ := fun W s => run_bytes_of_string W 9 29 5 ⟨s.toArray⟩ Try.underlying9 Try.underlying29 Try.underlying5
            simp only [size_mk] at hcv
            by_cases hm : m < tx.length - q
            · have hmi : (m : Int) < ((tx.drop q).length : Int) := by rw [List.length_drop]; omega
              have hs2 : ∀ W : World, (Instr.slice 9 (sv (tx.drop q)) none (some (.int .i64 m)) none).run Try.prog W = .ok (sv ((tx.drop q).take m)) W := fun W => by
                have h := run_slice_string_h (P := Try.prog) W 9 ⟨(tx.drop q).toArray⟩ Try.underlying9 .i64 (m : Int) (by omega) (by rw [size_mk]; omega)
                refine h.trans ?_
                rw [ByteArray.extract_mk]
                simp
              generalize tx.drop q = d at *
              generalize d.take m = o2 at *
              clear h4 h5 h3 h2
              go_enter Try.func65, Try.ntmps65
              go_wp2_with (first
                | (go_at_call 91; refine HIS.out.mono ?_; rintro e1 w1 ⟨rfl, rfl⟩)
                | (go_at_call 90; refine HCN.out.mono ?_; rintro e2 w2 ⟨rfl, hr2, hf2⟩
                   obtain ⟨d0, d1, d2, d3, d4, dF⟩ := cells5 hr2.disk
                   replace d1 : w2.cell? ⟨r, 1, none⟩ = some (.slice X.ta st.texts.length X.tc) := d1
                   rw [HG.out] at d1
                   have hc2 := HCE.out w2 ⟨st.texts, st.there, st.count + 1, st.id⟩ rfl hr2
                   have HR2 := Lib.hid hr2; have HF2 := Lib.hid hf2
                   clear hr2 hf2))
              go_ret2
              exact ⟨_, _, rfl, bytes_new _ _ _ _ _, HR2.out.keep ((Fr.refl No _).drew.alloc _), HF2.out.drew.alloc _⟩
            · have hmi : ¬ (m : Int) < ((tx.drop q).length : Int) := by rw [List.length_drop]; omega
              have hmd : decide ((m : Int) < ((tx.drop q).length : Int)) = false := decide_eq_false hmi
              rw [List.take_of_length_le (by rw [List.length_drop]; omega)]
              generalize tx.drop q = d at *
              clear h4 h5 h3 h2
              go_enter Try.func65, Try.ntmps65
              go_wp2_with (first
                | (go_at_call 91; refine HIS.out.mono ?_; rintro e1 w1 ⟨rfl, rfl⟩)
                | (go_at_call 90; refine HCN.out.mono ?_; rintro e2 w2 ⟨rfl, hr2, hf2⟩
                   obtain ⟨d0, d1, d2, d3, d4, dF⟩ := cells5 hr2.disk
                   replace d1 : w2.cell? ⟨r, 1, none⟩ = some (.slice X.ta st.texts.length X.tc) := d1
                   rw [HG.out] at d1
                   have hc2 := HCE.out w2 ⟨st.texts, st.there, st.count + 1, st.id⟩ rfl hr2
                   have HR2 := Lib.hid hr2; have HF2 := Lib.hid hf2
                   clear hr2 hf2))
              go_ret2
              exact ⟨_, _, rfl, bytes_new _ _ _ _ _, HR2.out.keep ((Fr.refl No _).drew.alloc _), HF2.out.drew.alloc _⟩
          · rw [h5] at HCN ⊢
            rw [if_neg (show ¬ (25 : Int) = 0 from by decide)]
            clear h4 h5 h3 h2
            go_enter Try.func65, Try.ntmps65
            go_wp2_with (first
              | (go_at_call 91; refine HIS.out.mono ?_; rintro e1 w1 ⟨rfl, rfl⟩)
              | (go_at_call 90; refine HCN.out.mono ?_; rintro e2 w2 ⟨rfl, hr2, hf2⟩))
            go_ret2
            exact rread_none hr2 hf2
end Go.Proofs.Ytljldkknopmfhaa
