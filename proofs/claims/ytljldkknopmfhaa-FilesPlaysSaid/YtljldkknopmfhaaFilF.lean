/- A disk's Create. -/
import Derived.Test.YtljldkknopmfhaaFilE
namespace Go.Proofs.Ytljldkknopmfhaa
open Go.RowKit Go.Maps Go

theorem is_made {st : DS} (hl : st.there.length = st.texts.length) (c : Nat) (i : Int) (k : Int) : DS.is ⟨st.texts ++ [[]], st.there ++ [true], c, i⟩ k = if k = ((st.texts.length + 1 : Nat) : Int) then true else st.is k := by
  unfold DS.is
  simp only [List.length_append, List.length_cons, List.length_nil]
  split
  · rename_i e; subst e
    rw [List.getD_eq_getElem?_getD, List.getElem?_append_right (by omega)]
    simp [hl]; omega
  · rename_i e
    by_cases hk : 1 ≤ k ∧ k ≤ st.texts.length
    · rw [List.getD_eq_getElem?_getD, List.getElem?_append_left (by omega), ← List.getD_eq_getElem?_getD, decide_eq_true hk, decide_eq_true (by omega)]
    · rw [decide_eq_false hk, decide_eq_false (by omega), Bool.false_and, Bool.false_and]
theorem text_made {st : DS} (c : Nat) (i : Int) (q : Nat) (hq : st.is q = true) : DS.text ⟨st.texts ++ [[]], st.there ++ [true], c, i⟩ q = st.text q := by
  unfold DS.is at hq
  simp only [Bool.and_eq_true, decide_eq_true_eq] at hq
  unfold DS.text
  simp only [Int.toNat_natCast, List.getD_eq_getElem?_getD]
  rw [List.getElem?_append_left (by omega)]
theorem text_new {st : DS} (c : Nat) (i : Int) : DS.text ⟨st.texts ++ [[]], st.there ++ [true], c, i⟩ ((st.texts.length + 1 : Nat) : Int) = [] := by
  unfold DS.text
  simp only [Int.toNat_natCast, List.getD_eq_getElem?_getD, Nat.add_sub_cancel]
  rw [List.getElem?_append_right (by omega)]; simp
/-- A file has been made. -/
theorem DRep.created {w w' : World} {d : Nat} {S : List (Int × Int)} {st : DS} {tg : Nat → Nat} {X : DX} (h : DRep w d S st tg X) (hl : st.there.length = st.texts.length)
    (fr : Fr (fun b _ => b = d ∨ b = X.m) w w') (hdk : w'.heap[d]? = some (.cells #[.slice X.sa S.length X.sc, .map (some X.m), .int .i64 ((st.texts.length + 1 : Nat) : Int), .int .i64 st.count, .int .i64 st.id] 80 (0, 0)))
    (hf : w'.heap[w.heap.size]? = some (.cells #[.slice none 0 0] 86 (0, 0))) (own : w'.ownsMap Try.prog 3 ptrR X.m (st.texts.length + 1) (X.D.put (.int .i64 ((st.texts.length + 1 : Nat) : Int)) (.lit (.int .i64 w.heap.size)))) :
    Left w d S ⟨st.texts ++ [[]], st.there ++ [true], st.count, st.id⟩ tg w' := by
  have hd := h.tgd
  have hm := h.tgm
  have hml := h.own.lt
  have hS : ∀ b, tg b ≠ 1 → tg b ≠ 2 → ¬ (b = d ∨ b = X.m) := by
    rintro b n1 n2 (e | e)
    · subst e; exact n1 hd
    · subst e; exact n2 hm
  have keep : ∀ {b : Nat} {o : Obj}, w.heap[b]? = some o → tg b ≠ 1 → tg b ≠ 2 → w'.heap[b]? = some o := fun {b o} hb n1 n2 => (fr.block b (heap_lt hb) fun o => hS b n1 n2).trans hb
  let tg' : Nat → Nat := fun x => if x = w.heap.size then 4 + 2 * (st.texts.length + 1) else tg x
  have low : ∀ b, b < w.heap.size → tg' b = tg b := fun b hbl => if_neg (by omega)
  have hs : ∀ (g : Nat) (off : Nat), X.sa = some ⟨g, off, none⟩ → 0 < S.length → g < w.heap.size := fun g off e h0 => by
    obtain ⟨g', off', e', hr⟩ := h.scrAt (by rw [scr_length]; omega)
    rw [e] at e'; injection e' with e'; injection e' with e1 e2; subst e1
    exact hr.lt (by rw [scr_length]; omega)
  have his := fun q : Int => is_made hl st.count st.id q
  refine ⟨tg', { X with D := X.D.put (.int .i64 ((st.texts.length + 1 : Nat) : Int)) (.lit (.int .i64 w.heap.size)) }, ⟨fun b hb' => ?_, ?_, (low d (heap_lt h.disk)).trans hd, (low _ hml).trans hm, ?_, ?_, fun g off e h0 => ?_, fun no => ?_, fun q hq => ?_⟩, ?_, low⟩
  · by_cases hbl : b < w.heap.size
    · exact Nat.lt_of_lt_of_le hbl fr.size
    · replace hb' : (if b = w.heap.size then 4 + 2 * (st.texts.length + 1) else tg b) ≠ 0 := hb'
      split at hb'
      · rename_i e; subst e; exact heap_lt hf
      · exact absurd (h.lt b hb') hbl
  · simpa using hdk
  · simpa using own
  · refine h.scrAt.fr fr fun g off e hg i hi => hS g ?_ ?_
    all_goals
      have h0 : 0 < S.length := by rw [scr_length] at hi; omega
      have := h.scrTg g off e h0
      omega
  · rw [low g (hs g off e h0)]; exact h.scrTg g off e h0
  · rw [his no]
    split
    · rename_i e; rw [e]; exact has_put_same h.own.isMap (by simp [WideAt.IsKeyLit]) _
    · rename_i e
      rw [has_put_other (by simpa using e)]
      exact h.has no
  · rw [his q] at hq
    split at hq
    · rename_i e
      obtain rfl : q = st.texts.length + 1 := by omega
      refine ⟨w.heap.size, .slice none 0 0, atKey_put_same h.own.isMap (by simp [WideAt.IsKeyLit]) _ _, if_pos rfl, hf, ?_, by simp [Value.ownBlock]⟩
      rw [text_new]; exact OwnSl.nil _ _ _
    · rename_i e
      rw [text_made _ _ q hq]
      obtain ⟨p, u, h1, h2, h3, h4, h5⟩ := h.file q hq
      refine ⟨p, u, (atKey_put_other (by simpa using e) _ _).trans h1, (low p (heap_lt h3)).trans h2, keep h3 (by omega) (by omega), h4.fr fr fun b o hb' => hS b ?_ ?_, fun b hb' => (low b (h4.lt b hb')).trans (h5 b hb')⟩
      · have := h5 b hb'; omega
      · have := h5 b hb'; omega
  · refine fr.mono fun b o _ e => ?_
    rcases e with e | e
    · subst e; unfold Tg; omega
    · subst e; unfold Tg; omega
theorem run_equalIn_map_nil {P : Program} (w : World) (k : Nat) (t a b : TypeId) (m : Nat) (h : P.underlying t = some (.map a b)) : (Op.equalIn (k + 1) t (.map (some m)) (.map none)).run P w = .ok false w := by
  simp [Op.equalIn, run_underlying h]
theorem run_eql_map_nil {P : Program} (w : World) (t a b : TypeId) (m : Nat) (h : P.underlying t = some (.map a b)) : (binOp .eql t (.map (some m)) (.map none)).run P w = .ok (.bool false) w := by
  simp only [binOp]
  simp [Op.equal, Op.maxDepth, run_equalIn_map_nil w 9999 t a b m h]
def CrPost (w : World) (d : Nat) (S : List (Int × Int)) (r : DS × Int × Int) (tg : Nat → Nat) (e : Ending) (w' : World) : Prop := e = .returned (.tuple #[.int .i64 r.2.1, .int .i64 r.2.2]) ∧ Left w d S r.1 tg w'
set_option maxHeartbeats 2000000 in
set_option maxRecDepth 100000 in
theorem create_any (d : Nat) (S : List (Int × Int)) (st : DS) (tg : Nat → Nat) (X : DX) (w : World) (h : DRep w d S st tg X) (hlen : st.there.length = st.texts.length) (h64 : st.texts.length ≤ 64) (hl : S.length ≤ 100000) (hc : st.count ≤ 1000000) :
    Calls Try.prog 20 #[.pointer (some ⟨d, 0, none⟩)] w (CrPost w d S (createM S st) tg) := by
  have hE := fun (W : World) (m : Nat) => run_eql_map_nil W 78 3 82 m Try.underlying78
  have H := Lib.hid h
  have HCN := Lib.hid (fun (W : World) (f : Fr No w W) => counts_any d S st tg X W (h.fr f (fun _ _ _ x => x)) hl hc)
  obtain ⟨c0, c1, c2, c3, c4, cF⟩ := cells5 h.disk
  have htd := h.tgd
  have htm := h.tgm
  have HLE := Lib.hid hlen
  clear h hlen
  by_cases hm : st.texts.length = 64
  · have e0 : createM S st = (st, 0, 17) := by unfold createM; rw [if_pos hm]
    rw [e0]
    rw [hm, show (((64 : Nat)) : Int) = 64 from rfl] at c2
    clear hm e0 HCN HLE h64
    go_enter Try.func20, Try.ntmps20
    go_wp2
    go_ret2
    exact ⟨rfl, left_same H.out (Fr.refl No _)⟩
  · have hmb : ((st.texts.length : Int) == 64) = false := by simp only [beq_eq_false_iff_ne]; omega
    have hmb2 : (st.texts.length == 64) = false := by simp only [beq_eq_false_iff_ne]; omega
    rcases countsM_cases S st with ⟨h4, h5⟩ | ⟨i, h4, h5⟩
    · have e0 : createM S st = (⟨st.texts ++ [[]], st.there ++ [true], st.count + 1, st.id⟩, ((st.texts.length + 1 : Nat) : Int), 0) := by
        unfold createM; rw [if_neg hm, if_pos (by rw [h5]), h5]; simp
      rw [e0]
      unfold CntPost at HCN
      rw [h5] at HCN
      clear h4 h5 e0
      go_enter Try.func20, Try.ntmps20
      go_wp2_with (first
        | (go_at_call 56; refine (HCN.out _ (Fr.refl _ _)).mono ?_; rintro e2 w2 ⟨rfl, hr2, hf2⟩
           have HR2 := Lib.hid hr2; have HF2 := Lib.hid hf2; clear hf2
           obtain ⟨d0, d1, d2, d3, d4, dF⟩ := cells5 hr2.disk
           clear hr2))
      have KM := Lib.hid (show d ≠ X.m from fun e => by rw [← e, htd] at htm; cases htm)
      have hh3 : (w2.setCell ⟨d, 2, none⟩ (.int .i64 ((st.texts.length : Int) + 1))).heap[d]? = some (.cells #[.slice X.sa S.length X.sc, .map (some X.m), .int .i64 ((st.texts.length : Int) + 1), .int .i64 ((st.count + 1 : Nat) : Int), .int .i64 st.id] 80 (0, 0)) := by
        rw [setCell_eq_setRow w2 d 2 _ _ _ _ HR2.out.disk]
        exact setRow_heap w2 d _ _ _ _ HR2.out.disk
      have f3 : Fr (fun b _ => b = d) w2 (w2.setCell ⟨d, 2, none⟩ (.int .i64 ((st.texts.length : Int) + 1))) := Fr.setCell (S := fun x _ => x = d) (Fr.refl _ _) (fun _ => rfl) _
      have hs3 : (w2.setCell ⟨d, 2, none⟩ (.int .i64 ((st.texts.length : Int) + 1))).heap.size = w2.heap.size := by simp [World.setCell]
      have HS3 := Lib.hid hs3; clear hs3
      generalize w2.setCell ⟨d, 2, none⟩ (.int .i64 ((st.texts.length : Int) + 1)) = w3 at *
      obtain ⟨e0, e1, e2, e3, e4, eF⟩ := cells5 hh3
      have hdl := heap_lt hh3
      have own3 := ownsMap_fr HR2.out.own f3 (fun _ e => KM.out e.symm)
      obtain ⟨w5, hrun, hown5, hturn5⟩ := ((own3.alloc (.cells #[.slice none 0 0] 86)).drew).store (int_keyed Try.underlying3) Try.underlying78 (by show st.texts.length < maxLen; unfold maxLen; omega) (key_of ((st.texts.length : Int) + 1) (by simp [Lit.wf, IntKind.min, IntKind.max, IntKind.signed, IntKind.bits]; omega)) (val := .pointer (some ⟨w3.heap.size, 0, none⟩)) (d := .lit (.int .i64 w3.heap.size)) (ps := []) rfl
      have HO5 := Lib.hid hown5; have HT5 := Lib.hid hturn5; have HF3 := Lib.hid f3; have HH3 := Lib.hid hh3
      clear hown5 hturn5 own3 f3 hh3
      have F5 := fr_turned HT5.out
      have h52 : w5.cell? ⟨d, 2, none⟩ = some (.int .i64 ((st.texts.length : Int) + 1)) := (F5.cell d 2 (by simp; omega) (fun e => KM.out e)).trans ((((Fr.refl No w3).alloc _).drew.at.1 d 2 hdl).trans e2)
      have HF5 := Lib.hid F5; clear F5
      go_region
      go_wp2
      go_ret2
      have hsz3 := HF3.out.size
      have hlt3 : X.m < w3.heap.size := Nat.lt_of_lt_of_le HR2.out.own.lt hsz3
      have f4 : Fr No w3 (w3.alloc (.cells #[.slice none 0 0] 86)).drew := ((Fr.refl No w3).alloc _).drew
      have f35 : Fr (fun b _ => b = d ∨ b = X.m) w2 w5 := ((HF3.out.mono fun b o _ e => .inl e).trans (f4.mono fun b o _ e => e.elim)).trans (HF5.out.mono fun b o _ e => .inr e)
      refine ⟨rfl, Left.from ?_ (HF2.out.mono fun b o _ e => by rw [e]; unfold Tg; rw [htd]; decide)⟩
      have a5 : w5.heap[d]? = some (.cells #[.slice X.sa S.length X.sc, .map (some X.m), .int .i64 ((st.texts.length : Int) + 1), .int .i64 ((st.count + 1 : Nat) : Int), .int .i64 st.id] 80 (0, 0)) :=
        (HF5.out.block d (by simp; omega) (fun _ e => KM.out e)).trans ((f4.block d hdl (fun _ x => x)).trans HH3.out)
      have b5 : w5.heap[w3.heap.size]? = some (.cells #[.slice none 0 0] 86 (0, 0)) :=
        (HF5.out.block w3.heap.size (by simp) (fun _ e => by omega)).trans (heap_alloc_new w3 _)
      have c5 := HO5.out
      rw [HS3.out] at b5 c5
      exact HR2.out.created HLE.out f35 a5 b5 c5
    · have e0 : createM S st = (⟨st.texts, st.there, st.count + 1, i⟩, 0, 25) := by
        unfold createM; rw [if_neg hm, if_neg (by rw [h5]; exact (show ¬ (25 : Int) = 0 from by decide)), h5]
      rw [e0]
      unfold CntPost at HCN
      rw [h5] at HCN
      clear h4 h5 e0
      go_enter Try.func20, Try.ntmps20
      go_wp2_with (first
        | (go_at_call 56; refine (HCN.out _ (Fr.refl _ _)).mono ?_; rintro e2 w2 ⟨rfl, hr2, hf2⟩))
      go_ret2
      exact ⟨rfl, left_of_turn hr2 htd hf2⟩
end Go.Proofs.Ytljldkknopmfhaa
