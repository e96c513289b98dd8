/- The document's disk, as it lies in memory; its Counts, Is, Create, Write, Remove. -/
import Derived.Test.YtljldkknopmfhaaFilG
namespace Go.Proofs.Ytljldkknopmfhaa
open Go.RowKit Go.Maps Go

theorem take_mem' {α : Type} {l : List α} {i j : Nat} (hi : i < j) (hj : i < l.length) : l[i] ∈ l.take j := by
  rw [List.mem_take_iff_getElem]
  exact ⟨i, by omega, rfl⟩
structure RX where
  sa : Option Addr
  sc : Nat
  ta : Option Addr
  tc : Nat
  ha : Option Addr
  hc : Nat
def bo (b : Bool) : Value := .bool b
structure RRep (w : World) (r : Nat) (S : List (Int × Int)) (st : DS) (tg : Nat → Nat) (X : RX) : Prop where
  lt : ∀ b, tg b ≠ 0 → b < w.heap.size
  disk : w.heap[r]? = some (.cells #[.slice X.sa S.length X.sc, .slice X.ta st.texts.length X.tc, .slice X.ha st.there.length X.hc, .int .i64 st.count, .int .i64 st.id] 54 (0, 0))
  tgr : tg r = 1
  txt : OwnSl w 9 1 (.slice X.ta st.texts.length X.tc) st.texts.length (st.texts.map sv)
  txtTg : ∀ b, (Value.slice X.ta st.texts.length X.tc).ownBlock = some b → tg b = 2
  the : OwnSl w 4 1 (.slice X.ha st.there.length X.hc) st.there.length (st.there.map bo)
  theTg : ∀ b, (Value.slice X.ha st.there.length X.hc).ownBlock = some b → tg b = 3
  scrAt : At w X.sa (scr S)
  scrTg : ∀ g off, X.sa = some ⟨g, off, none⟩ → 0 < S.length → tg g = 0
theorem scr_pos {S : List (Int × Int)} {i : Nat} (h : i < (scr S).length) : 0 < S.length := by rw [scr_length] at h; omega
theorem RRep.fr {w w' : World} {r : Nat} {S : List (Int × Int)} {st : DS} {tg : Nat → Nat} {X : RX} {T : Nat → Nat → Prop} (h : RRep w r S st tg X) (f : Fr T w w') (hT : ∀ b o, tg b ≠ 0 → ¬ T b o) (hs : ∀ g off, X.sa = some ⟨g, off, none⟩ → 0 < S.length → ∀ o, ¬ T g o) : RRep w' r S st tg X :=
  ⟨fun b hb => Nat.lt_of_lt_of_le (h.lt b hb) f.size, (f.block r (heap_lt h.disk) fun o => hT r o (by rw [h.tgr]; decide)).trans h.disk, h.tgr,
   h.txt.fr f fun b o hb => hT b o (by rw [h.txtTg b hb]; decide), h.txtTg, h.the.fr f fun b o hb => hT b o (by rw [h.theTg b hb]; decide), h.theTg,
   h.scrAt.fr f fun g off e _ i hi => hs g off e (scr_pos hi) _, h.scrTg⟩
theorem RRep.keep {w w' : World} {r : Nat} {S : List (Int × Int)} {st : DS} {tg : Nat → Nat} {X : RX} (h : RRep w r S st tg X) (f : Fr No w w') : RRep w' r S st tg X := h.fr f (fun _ _ _ x => x) (fun _ _ _ _ _ x => x)
theorem RRep.turn {w w' : World} {r : Nat} {S : List (Int × Int)} {st : DS} {tg : Nat → Nat} {X : RX} (h : RRep w r S st tg X) (f : Fr (fun b _ => b = r) w w') (c : Nat) (i : Int)
    (hd : w'.heap[r]? = some (.cells #[.slice X.sa S.length X.sc, .slice X.ta st.texts.length X.tc, .slice X.ha st.there.length X.hc, .int .i64 c, .int .i64 i] 54 (0, 0))) : RRep w' r S ⟨st.texts, st.there, c, i⟩ tg X :=
  ⟨fun b hb => Nat.lt_of_lt_of_le (h.lt b hb) f.size, hd, h.tgr, h.txt.fr f (fun b o hb e => by have := h.txtTg b hb; rw [e, h.tgr] at this; cases this), h.txtTg,
   h.the.fr f (fun b o hb e => by have := h.theTg b hb; rw [e, h.tgr] at this; cases this), h.theTg,
   h.scrAt.fr f (fun g off e _ i hi e2 => by have := h.scrTg g off e (scr_pos hi); rw [e2, h.tgr] at this; cases this), h.scrTg⟩
def RLeft (w : World) (r : Nat) (S : List (Int × Int)) (st' : DS) (tg : Nat → Nat) (sa : Option Addr) (w' : World) : Prop :=
  ∃ tg' X', X'.sa = sa ∧ RRep w' r S st' tg' X' ∧ Fr (Tg tg) w w' ∧ ∀ b, b < w.heap.size → tg' b = tg b
theorem rleft_of_turn {w w' : World} {r : Nat} {S : List (Int × Int)} {st' : DS} {tg : Nat → Nat} {X : RX} (h : RRep w' r S st' tg X) (f : Fr (fun b _ => b = r) w w') : RLeft w r S st' tg X.sa w' :=
  ⟨tg, X, rfl, h, f.mono (fun b o _ e => by subst e; unfold Tg; rw [h.tgr]; decide), fun _ _ => rfl⟩
theorem rleft_same {w w' : World} {r : Nat} {S : List (Int × Int)} {st : DS} {tg : Nat → Nat} {X : RX} (h : RRep w r S st tg X) (f : Fr No w w') : RLeft w r S st tg X.sa w' :=
  ⟨tg, X, rfl, h.keep f, f.mono (fun _ _ _ x => x.elim), fun _ _ => rfl⟩
def RCntPost (w : World) (r : Nat) (S : List (Int × Int)) (st : DS) (tg : Nat → Nat) (X : RX) (e : Ending) (w' : World) : Prop :=
  e = .returned (.int .i64 (countsM S st).2) ∧ RRep w' r S (countsM S st).1 tg X ∧ Fr (fun b _ => b = r) w w'
set_option maxHeartbeats 2000000 in
set_option maxRecDepth 100000 in
theorem rcounts_any (r : Nat) (S : List (Int × Int)) (st : DS) (tg : Nat → Nat) (X : RX) (w : World) (h : RRep w r S st tg X) (hl : S.length ≤ 100000) (hc : st.count ≤ 1000000) :
    Calls Try.prog 90 #[.pointer (some ⟨r, 0, none⟩)] w (RCntPost w r S st tg X) := by
  obtain ⟨k0, k1, k2, k3, k4, kF⟩ := cells5 h.disk
  have H := Lib.hid h
  have hci : (st.count : Int) ≤ 1000000 := by omega
  clear h
  go_enter Try.func90, Try.ntmps90
  go_wp2
  have hh1 : (w.setCell ⟨r, 3, none⟩ (.int .i64 ((st.count : Int) + 1))).heap[r]? = some (.cells #[.slice X.sa S.length X.sc, .slice X.ta st.texts.length X.tc, .slice X.ha st.there.length X.hc, .int .i64 ((st.count : Int) + 1), .int .i64 st.id] 54 (0, 0)) := by
    rw [setCell_eq_setRow w r 3 _ _ _ _ H.out.disk]
    exact setRow_heap w r _ _ _ _ H.out.disk
  have f1 : Fr (fun b _ => b = r) w (w.setCell ⟨r, 3, none⟩ (.int .i64 ((st.count : Int) + 1))) := Fr.setCell (S := fun x _ => x = r) (Fr.refl _ _) (fun _ => rfl) _
  generalize w.setCell ⟨r, 3, none⟩ (.int .i64 ((st.count : Int) + 1)) = w1 at *
  obtain ⟨c0, c1, c2, c3, c4, cF⟩ := cells5 hh1
  have hat := H.out.scrAt.fr f1 fun g off e _ i hi e2 => by have := H.out.scrTg g off e (scr_pos hi); rw [e2, H.out.tgr] at this; cases this
  have HA := Lib.hid hat; have HH := Lib.hid hh1; have HF := Lib.hid f1
  clear k0 k1 k2 k3 k4 kF hat hh1 f1
  go_loopw [3] (fun i wr => ∃ k : Nat, k ≤ S.length ∧ i = .int .i64 k ∧ Hid (∀ f ∈ S.take k, f.1 ≠ (st.count : Int)) ∧ ∃ q, wr = w1.drewN q) (fun i _ => S.length - (intOf i).toNat)
  case atStart => exact ⟨0, Nat.zero_le _, rfl, Lib.hid (by simp), 0, rfl⟩
  case round =>
    obtain ⟨k, hk, rfl, HN, q, rfl⟩ := hrel
    by_cases hlt : k < S.length
    · obtain ⟨g, off, hsa, hr⟩ := HA.out (by rw [scr_length]; omega)
      obtain ⟨d1, d2⟩ := scr_cell hr hlt
      have hgr : g ≠ r := by
        intro e; have := H.out.scrTg g off hsa (by omega); rw [e, H.out.tgr] at this; cases this
      have hki : (k : Int) < S.length := by omega
      have hat := fun e => hitAt_at hlt e HN.out
      have hnx : S[k].1 ≠ (st.count : Int) → ∀ f ∈ S.take (k + 1), f.1 ≠ (st.count : Int) := by
        intro e f hf
        rw [List.take_succ_eq_append_getElem hlt] at hf
        rcases List.mem_append.1 hf with hf | hf
        · exact HN.out f hf
        · simp at hf; subst hf; exact e
      have hcm : S[k].1 = (st.count : Int) → countsM S st = (⟨st.texts, st.there, st.count + 1, S[k].2⟩, 25) := by
        intro e
        have h1 := hitM_some S st.count k hlt e (fun i hi => HN.out _ (take_mem' hi (by omega)))
        unfold countsM; rw [h1]
      have HNX := Lib.hid hnx; have HCM := Lib.hid hcm
      clear hat hnx hcm hr
      generalize S[k] = x at *
      obtain ⟨x1, x2⟩ := x
      dsimp only at *
      rw [hsa] at c0
      have HSA := Lib.hid hsa; clear hsa
      by_cases hx : x1 = st.count
      · have HE := Lib.hid (HCM.out hx)
        subst hx
        clear HNX HCM
        go_wp2_with fail
        go_quiet (fail)
        go_wp2
        go_ret
        unfold RCntPost
        rw [HE.out]
        have hh2 : (w1.setCell ⟨r, 4, none⟩ (.int .i64 x2)).heap[r]? = some (.cells #[.slice X.sa S.length X.sc, .slice X.ta st.texts.length X.tc, .slice X.ha st.there.length X.hc, .int .i64 ((st.count : Int) + 1), .int .i64 x2] 54 (0, 0)) := by
          rw [setCell_eq_setRow w1 r 4 _ _ _ _ HH.out]
          exact setRow_heap w1 r _ _ _ _ HH.out
        have f2 : Fr (fun b _ => b = r) w (w1.setCell ⟨r, 4, none⟩ (.int .i64 x2)) := HF.out.setCell (fun _ => rfl) _
        exact ⟨rfl, (H.out.turn f2 _ _ hh2).keep ((Fr.refl No _).drewN _), f2.drewN _⟩
      · have hxb : (x1 == (st.count : Int)) = false := by simpa using hx
        have HX := Lib.hid (HNX.out hx)
        clear hx
        go_wp2_with fail
        go_quiet (fail)
        go_wp2
        go_roundw
        case rel => exact ⟨k + 1, by omega, by go_num, HX, q + nq, by simp⟩
        case measure => simp [intOf]; omega
    · obtain rfl : k = S.length := by omega
      have hn := HN.out
      rw [List.take_length] at hn
      have e0 : countsM S st = (⟨st.texts, st.there, st.count + 1, st.id⟩, 0) := by
        have h1 := hitM_none S st.count (fun i hi => hn _ (List.getElem_mem hi))
        unfold countsM; rw [h1]
      have HE := Lib.hid e0; clear e0 hn
      go_wp2
      go_ret
      unfold RCntPost
      rw [HE.out]
      exact ⟨rfl, (H.out.turn HF.out _ _ HH.out).keep ((Fr.refl No _).drewN _), HF.out.drewN _⟩
end Go.Proofs.Ytljldkknopmfhaa
