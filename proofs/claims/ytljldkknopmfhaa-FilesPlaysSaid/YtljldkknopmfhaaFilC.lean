/- A disk's at, Create, Write, Remove. -/
import Derived.Test.YtljldkknopmfhaaFilB
namespace Go.Proofs.Ytljldkknopmfhaa
open Go.RowKit Go.Maps Go

set_option maxRecDepth 100000 in
theorem at_no_any (d : Nat) (S : List (Int × Int)) (st : DS) (tg : Nat → Nat) (X : DX) (w : World) (h : DRep w d S st tg X) (no : Int) (hw : (Lit.int .i64 no).wf = true) (hno : st.is no = false) :
    Calls Try.prog 57 #[.pointer (some ⟨d, 0, none⟩), .int .i64 no] w (AtPost w none) := by
  obtain ⟨c0, c1, c2, c3, c4, cF⟩ := cells5 h.disk
  have hr := (at_run h (Fr.refl No w) no hw).1 hno
  clear h
  go_enter Try.func57, Try.ntmps57
  go_wp2
  go_ret
  exact ⟨rfl, Fr.refl _ _⟩
set_option maxRecDepth 100000 in
theorem at_yes_any (d : Nat) (S : List (Int × Int)) (st : DS) (tg : Nat → Nat) (X : DX) (w : World) (h : DRep w d S st tg X) (no : Int) (hw : (Lit.int .i64 no).wf = true) (hno : st.is no = true) (p : Nat)
    (hp : X.D.atKey (.int .i64 no) (.lit (.int .i64 (-1))) = .lit (.int .i64 p)) :
    Calls Try.prog 57 #[.pointer (some ⟨d, 0, none⟩), .int .i64 no] w (AtPost w (some ⟨p, 0, none⟩)) := by
  obtain ⟨c0, c1, c2, c3, c4, cF⟩ := cells5 h.disk
  have hr := (at_run h (Fr.refl No w) no hw).2 p hno hp
  clear h
  go_enter Try.func57, Try.ntmps57
  go_wp2
  go_ret
  exact ⟨rfl, Fr.refl _ _⟩
set_option maxRecDepth 100000 in
theorem at_nil_any (no : Int) (w : World) : Calls Try.prog 57 #[.pointer none, .int .i64 no] w (AtPost w none) := by
  go_enter Try.func57, Try.ntmps57
  go_wp2
  go_ret
  exact ⟨rfl, Fr.refl _ _⟩

/-- What a call leaves of a disk. -/
def Left (w : World) (d : Nat) (S : List (Int × Int)) (st' : DS) (tg : Nat → Nat) (w' : World) : Prop :=
  ∃ tg' X', DRep w' d S st' tg' X' ∧ Fr (Tg tg) w w' ∧ ∀ b, b < w.heap.size → tg' b = tg b
theorem left_of_turn {w w' : World} {d : Nat} {S : List (Int × Int)} {st' : DS} {tg : Nat → Nat} {X : DX} (h : DRep w' d S st' tg X) (hd : tg d = 1) (f : Fr (fun b _ => b = d) w w') : Left w d S st' tg w' :=
  ⟨tg, X, h, f.mono (fun b o _ e => by subst e; unfold Tg; rw [hd]; decide), fun _ _ => rfl⟩
theorem left_same {w w' : World} {d : Nat} {S : List (Int × Int)} {st : DS} {tg : Nat → Nat} {X : DX} (h : DRep w d S st tg X) (f : Fr No w w') : Left w d S st tg w' :=
  ⟨tg, X, h.fr f (fun _ _ _ x => x), f.mono (fun _ _ _ x => x.elim), fun _ _ => rfl⟩
theorem fr_turned {w w' : World} {b : Nat} (h : w.mapTurned w' b) : Fr (fun x _ => x = b) w w' := by
  have hg := h.grown
  have hne : ∀ x, x < w.heap.size → x ≠ b → w'.heap[x]? = w.heap[x]? := fun x hx hn => hg.block x hx (fun e => hn (by injection e))
  exact ⟨hg.os, hg.tape, hg.output, hg.size, fun x o hx hs => World.cell?_of_block (w := w) (a := ⟨x, o, none⟩) (hne x hx hs), fun x o hx hs => World.frozen?_of_block (w := w) (a := ⟨x, o, none⟩) (hne x hx hs), fun x hx hs => hne x hx (hs 0)⟩
/-- A disk whose map has turned: all but what the map says stays. -/
theorem DRep.mapped {w w' : World} {d : Nat} {S : List (Int × Int)} {st st' : DS} {tg : Nat → Nat} {X : DX} {D' : DataW Unit} (h : DRep w d S st tg X) (ht : w.mapTurned w' X.m) (own : w'.ownsMap Try.prog 3 ptrR X.m st'.texts.length D')
    (e1 : st'.texts.length = st.texts.length) (e2 : st'.count = st.count) (e3 : st'.id = st.id) (has : ∀ no : Int, Maps.has D' (.int .i64 no) = st'.is no)
    (file : ∀ k : Nat, st'.is k = true → st.is k = true ∧ st'.text k = st.text k ∧ D'.atKey (.int .i64 k) (.lit (.int .i64 (-1))) = X.D.atKey (.int .i64 k) (.lit (.int .i64 (-1)))) :
    DRep w' d S st' tg { X with D := D' } := by
  have f := fr_turned ht
  have keep : ∀ {b : Nat} {o : Obj}, w.heap[b]? = some o → tg b ≠ 2 → w'.heap[b]? = some o := fun {b o} hb hn => (f.block b (heap_lt hb) fun o e => by subst e; exact hn h.tgm).trans hb
  refine ⟨fun b hb => Nat.lt_of_lt_of_le (h.lt b hb) f.size, ?_, h.tgd, h.tgm, own, h.scrAt.fr f fun g off e hg i hi e2 => ?_, h.scrTg, has, fun k hk => ?_⟩
  · rw [e1, e2, e3]; exact keep h.disk (by rw [h.tgd]; decide)
  · have h0 : 0 < S.length := by rw [scr_length] at hi; omega
    have := h.scrTg g off e h0
    rw [e2, h.tgm] at this; cases this
  · obtain ⟨k1, k2, k3⟩ := file k hk
    obtain ⟨p, v, h1, h2, h3, h4, h5⟩ := h.file k k1
    exact ⟨p, v, k3.trans h1, h2, keep h3 (by rw [h2]; omega), by rw [k2]; exact h4.fr f fun b o hb e => by have := h5 b hb; rw [e, h.tgm] at this; omega, h5⟩
def RemPost (w : World) (d : Nat) (S : List (Int × Int)) (r : DS × Int) (tg : Nat → Nat) (e : Ending) (w' : World) : Prop := e = .returned (.int .i64 r.2) ∧ Left w d S r.1 tg w'
theorem is_set {st : DS} {no : Int} (hno : st.is no = true) (hl : st.there.length = st.texts.length) (c : Nat) (i : Int) (k : Int) : DS.is ⟨st.texts, st.there.set (no.toNat - 1) false, c, i⟩ k = if k = no then false else st.is k := by
  unfold DS.is at hno ⊢
  simp only [Bool.and_eq_true, decide_eq_true_eq] at hno
  dsimp only
  split
  · rename_i e; subst e
    rw [List.getD_eq_getElem?_getD, List.getElem?_set_self (by omega)]
    simp
  · rename_i e
    by_cases hk : 1 ≤ k ∧ k ≤ st.texts.length
    · rw [List.getD_eq_getElem?_getD, List.getElem?_set_ne (by omega), ← List.getD_eq_getElem?_getD]
    · simp only [hk, decide_false, Bool.false_and]
set_option maxHeartbeats 1000000 in
set_option maxRecDepth 100000 in
theorem remove_any (d : Nat) (S : List (Int × Int)) (st : DS) (tg : Nat → Nat) (X : DX) (w : World) (h : DRep w d S st tg X) (hlen : st.there.length = st.texts.length) (hl : S.length ≤ 100000) (hc : st.count ≤ 1000000) (no : Int) (hw : (Lit.int .i64 no).wf = true) :
    Calls Try.prog 23 #[.pointer (some ⟨d, 0, none⟩), .int .i64 no] w (RemPost w d S (removeM S st no) tg) := by
  have H := Lib.hid h
  have HCN := Lib.hid (fun (W : World) (f : Fr No w W) => counts_any d S st tg X W (h.fr f (fun _ _ _ x => x)) hl hc)
  cases hno : st.is no with
  | false =>
    have e0 : removeM S st no = (st, 1) := by unfold removeM; rw [if_pos hno]
    rw [e0]
    have HAT := Lib.hid (at_no_any d S st tg X w h no hw hno)
    clear h hno e0
    go_enter Try.func23, Try.ntmps23
    go_wp2_with (go_at_call 57; refine HAT.out.mono ?_; rintro e1 w1 ⟨rfl, hf1⟩)
    go_ret
    exact ⟨rfl, left_same H.out hf1⟩
  | true =>
    obtain ⟨k, p, v, rfl, hp, _⟩ := h.at hno
    have HAT := Lib.hid (at_yes_any d S st tg X w h k hw hno p hp)
    have hm := h.tgm
    have htd := h.tgd
    clear h
    rcases countsM_cases S st with ⟨h1, h2⟩ | ⟨i, h1, h2⟩
    · have e0 : removeM S st k = (⟨st.texts, st.there.set ((k : Int).toNat - 1) false, st.count + 1, st.id⟩, 0) := by
        unfold removeM; rw [if_neg (by rw [hno]; simp), if_pos (by rw [h2]), h2]
      rw [e0]
      unfold CntPost at HCN
      rw [h2] at HCN
      clear h1 h2 e0
      go_enter Try.func23, Try.ntmps23
      go_wp2_with (first
        | (go_at_call 57; refine HAT.out.mono ?_; rintro e1 w1 ⟨rfl, hf1⟩)
        | (go_at_call 56; refine (HCN.out _ hf1).mono ?_; rintro e2 w2 ⟨rfl, hr2, hf2⟩
           have HR2 := Lib.hid hr2; have HF2 := Lib.hid hf2; clear hf2
           obtain ⟨c0, c1, c2, c3, c4, cF⟩ := cells5 hr2.disk
           clear hr2)
        | (at_delete; refine wpList_delete_own _ rfl _ _ 78 3 rfl 82 (int_keyed Try.underlying3) Try.underlying78 ptrR X.m _ X.D rfl HR2.out.own _ _ rfl (key_of k hw) ?_; intro w3 hown3 hturn3))
      go_ret
      have hset := fun q : Int => is_set hno hlen (st.count + 1) st.id q
      simp only [Int.toNat_natCast] at hset
      refine ⟨rfl, tg, { X with D := X.D.del (.int .i64 k) }, HR2.out.mapped hturn3 ?_ rfl rfl rfl (fun no => ?_) (fun q hq => ?_), ?_, fun _ _ => rfl⟩
      · exact hown3
      · show _ = DS.is ⟨st.texts, st.there.set (k - 1) false, st.count + 1, st.id⟩ no
        rw [hset no]
        split
        · rename_i e; subst e; exact has_del_same
        · rename_i e
          rw [has_del_other (by simpa using e)]
          exact H.out.has no
      · replace hq : DS.is ⟨st.texts, st.there.set (k - 1) false, st.count + 1, st.id⟩ q = true := hq
        rw [hset q] at hq
        split at hq
        · cases hq
        · rename_i e
          exact ⟨hq, rfl, atKey_del_other (by simpa using e) _⟩
      · refine ((hf1.mono (T := Tg tg) (fun _ _ _ x => x.elim)).trans (HF2.out.mono fun b o _ e => ?_)).trans ((fr_turned hturn3).mono fun b o _ e => ?_)
        · rw [e]; unfold Tg; rw [htd]; decide
        · rw [e]; unfold Tg; rw [hm]; decide
    · have e0 : removeM S st k = (⟨st.texts, st.there, st.count + 1, i⟩, 25) := by
        unfold removeM; rw [if_neg (by rw [hno]; simp), if_neg (by rw [h2]; simp), h2]
      rw [e0]
      unfold CntPost at HCN
      rw [h2] at HCN
      clear h1 h2 e0
      go_enter Try.func23, Try.ntmps23
      go_wp2_with (first
        | (go_at_call 57; refine HAT.out.mono ?_; rintro e1 w1 ⟨rfl, hf1⟩)
        | (go_at_call 56; refine (HCN.out _ hf1).mono ?_; rintro e2 w2 ⟨rfl, hr2, hf2⟩))
      go_ret
      exact ⟨rfl, left_of_turn hr2 htd ((hf1.mono (fun _ _ _ x => x.elim)).trans hf2)⟩
end Go.Proofs.Ytljldkknopmfhaa
