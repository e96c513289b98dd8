/- The document's disk: Is, Create, Write, Remove. -/
import Derived.Test.YtljldkknopmfhaaFilS
namespace Go.Proofs.Ytljldkknopmfhaa
open Go.RowKit Go.Maps Go

theorem info_str17 : (Try.prog.info? 9).map (fun i => (i.zero, i.size, i.bytes)) = some (some (.string ⟨#[]⟩), 1, 16) := by kernel_rfl
theorem info_bool17 : (Try.prog.info? 4).map (fun i => (i.zero, i.size, i.bytes)) = some (some (.bool false), 1, 1) := by kernel_rfl
theorem is_split (st : DS) (no : Int) : (no < 1 ∧ st.is no = false) ∨ ((st.texts.length : Int) < no ∧ st.is no = false) ∨ ∃ j : Nat, no = (j : Int) + 1 ∧ j < st.texts.length ∧ st.is no = st.there.getD j false := by
  unfold DS.is
  by_cases h1 : no < 1
  · exact .inl ⟨h1, by rw [decide_eq_false (by omega), Bool.false_and]⟩
  · by_cases h2 : (st.texts.length : Int) < no
    · exact .inr (.inl ⟨h2, by rw [decide_eq_false (by omega), Bool.false_and]⟩)
    · refine .inr (.inr ⟨no.toNat - 1, by omega, by omega, ?_⟩)
      rw [decide_eq_true (by omega), Bool.true_and]
def RIsPost (w : World) (b : Bool) (e : Ending) (w' : World) : Prop := e = .returned (.bool b) ∧ w = w'
set_option maxRecDepth 100000 in
theorem ris_any (r : Nat) (S : List (Int × Int)) (st : DS) (tg : Nat → Nat) (X : RX) (w : World) (h : RRep w r S st tg X) (hlen : st.there.length = st.texts.length) (no : Int) (h64 : st.texts.length ≤ 64) :
    Calls Try.prog 91 #[.pointer (some ⟨r, 0, none⟩), .int .i64 no] w (RIsPost w (st.is no)) := by
  obtain ⟨k0, k1, k2, k3, k4, kF⟩ := cells5 h.disk
  rcases is_split st no with ⟨h1, e⟩ | ⟨h1, e⟩ | ⟨j, rfl, hj, e⟩
  · rw [e]
    have h1d : decide (1 ≤ no) = false := decide_eq_false (by omega)
    clear h e
    go_enter Try.func91, Try.ntmps91
    go_wp2
    go_ret
    exact ⟨rfl, rfl⟩
  · rw [e]
    have h2 : 1 ≤ no := by omega
    have h1d : decide (no ≤ (st.texts.length : Int)) = false := decide_eq_false (by omega)
    have HLE := Lib.hid hlen
    clear h e hlen
    go_enter Try.func91, Try.ntmps91
    go_wp2
    go_ret
    exact ⟨rfl, rfl⟩
  · rw [e]
    obtain ⟨g, o, hg, hc, _⟩ := h.the.get (j := j) (by omega)
    rw [List.getD_eq_getElem?_getD, List.getElem?_map, List.getElem?_eq_getElem (by omega)] at hc
    rw [List.getD_eq_getElem?_getD, List.getElem?_eq_getElem (by omega)]
    simp only [Option.map_some, Option.getD_some, bo] at hc ⊢
    have h2 : (j : Int) + 1 ≤ st.texts.length := by omega
    have h3 : (j : Int) < st.there.length := by omega
    rw [hg] at k2
    generalize st.there[j] = b at *
    have HLE := Lib.hid hlen
    clear h e hlen hg
    go_enter Try.func91, Try.ntmps91
    go_wp2
    go_ret
    exact ⟨rfl, rfl⟩
def RRemPost (w : World) (r : Nat) (S : List (Int × Int)) (x : DS × Int) (tg : Nat → Nat) (sa : Option Addr) (e : Ending) (w' : World) : Prop := e = .returned (.int .i64 x.2) ∧ RLeft w r S x.1 tg sa w'
set_option maxHeartbeats 2000000 in
set_option maxRecDepth 100000 in
theorem rremove_any (r : Nat) (S : List (Int × Int)) (st : DS) (tg : Nat → Nat) (X : RX) (w : World) (h : RRep w r S st tg X) (hlen : st.there.length = st.texts.length) (h64 : st.texts.length ≤ 64) (hl : S.length ≤ 100000) (hc : st.count ≤ 1000000) (no : Int) :
    Calls Try.prog 66 #[.pointer (some ⟨r, 0, none⟩), .int .i64 no] w (RRemPost w r S (removeM S st no) tg X.sa) := by
  have H := Lib.hid h
  have HIS := Lib.hid (ris_any r S st tg X w h hlen no h64)
  have HCN := Lib.hid (rcounts_any r S st tg X w h hl hc)
  unfold RCntPost at HCN
  have hsp := is_split st no
  cases hno : st.is no with
  | false =>
    have e0 : removeM S st no = (st, 1) := by unfold removeM; rw [if_pos hno]
    rw [e0]
    rw [hno] at HIS
    clear h hno e0 hlen hsp HCN
    go_enter Try.func66, Try.ntmps66
    go_wp2_with (go_at_call 91; refine HIS.out.mono ?_; rintro e1 w1 ⟨rfl, rfl⟩)
    go_ret
    exact ⟨rfl, rleft_same H.out (Fr.refl _ _)⟩
  | true =>
    rw [hno] at HIS hsp
    obtain ⟨j, rfl, hj, _⟩ : ∃ j : Nat, no = (j : Int) + 1 ∧ j < st.texts.length ∧ True := by
      rcases hsp with ⟨_, e⟩ | ⟨_, e⟩ | ⟨j, e1, e2, _⟩
      · cases e
      · cases e
      · exact ⟨j, e1, e2, trivial⟩
    clear h hsp
    rcases countsM_cases S st with ⟨h1, h2⟩ | ⟨i, h1, h2⟩
    · have e0 : removeM S st ((j : Int) + 1) = (⟨st.texts, st.there.set j false, st.count + 1, st.id⟩, 0) := by
        unfold removeM
        rw [if_neg (by rw [hno]; simp), if_pos (by rw [h2]), h2, show ((j : Int) + 1).toNat - 1 = j from by omega]
      rw [e0]
      rw [h2] at HCN
      have hj2 : (j : Int) < st.there.length := by omega
      have HLE := Lib.hid hlen
      clear h1 h2 e0 hno hlen
      go_enter Try.func66, Try.ntmps66
      go_wp2_with (first
        | (go_at_call 91; refine HIS.out.mono ?_; rintro e1 w1 ⟨rfl, rfl⟩)
        | (go_at_call 90; refine HCN.out.mono ?_; rintro e2 w2 ⟨rfl, hr2, hf2⟩
           obtain ⟨d0, d1, d2, d3, d4, dF⟩ := cells5 hr2.disk
           obtain ⟨g, o, hg, hc2, hz2⟩ := hr2.the.get (j := j) (by have := HLE.out; show j < st.there.length; omega)
           replace d2 : w2.cell? ⟨r, 2, none⟩ = some (.slice X.ha st.there.length X.hc) := d2
           replace hg : X.ha = some ⟨g, o, none⟩ := hg
           rw [hg] at d2
           have HR2 := Lib.hid hr2; have HF2 := Lib.hid hf2; have HG := Lib.hid hg
           clear hr2 hf2 hg))
      go_ret
      have hgt : tg g = 3 := HR2.out.theTg g (by show (Value.slice X.ha _ _).ownBlock = _; rw [HG.out]; rfl)
      have f3 : Fr (fun b _ => b = g) w2 (w2.setCell ⟨g, o + j, none⟩ (.bool false)) := Fr.setCell (S := fun x _ => x = g) (Fr.refl _ _) (fun _ => rfl) _
      refine ⟨rfl, tg, X, rfl, ?_, (HF2.out.mono fun b o _ e => by rw [e]; unfold Tg; rw [HR2.out.tgr]; decide).trans (f3.mono fun b o _ e => by rw [e]; unfold Tg; rw [hgt]; decide), fun _ _ => rfl⟩
      have hset : (st.there.set j false).map bo = (st.there.map bo).set j (.bool false) := by rw [List.map_set]; rfl
      refine ⟨fun b hb => Nat.lt_of_lt_of_le (HR2.out.lt b hb) f3.size, ?_, HR2.out.tgr, HR2.out.txt.fr f3 (fun b o hb e => by have := HR2.out.txtTg b hb; rw [e, hgt] at this; cases this), HR2.out.txtTg, ?_, ?_,
        HR2.out.scrAt.fr f3 (fun g' off e _ i hi e2 => by have := HR2.out.scrTg g' off e (scr_pos hi); rw [e2, hgt] at this; cases this), HR2.out.scrTg⟩
      · rw [List.length_set]
        exact (f3.block r (heap_lt HR2.out.disk) (fun _ e => by have := HR2.out.tgr; rw [e, hgt] at this; cases this)).trans HR2.out.disk
      · rw [hset, List.length_set]
        have := HR2.out.the
        rw [HG.out] at this ⊢
        exact this.set (by have := HLE.out; show j < st.there.length; omega) _
      · rw [List.length_set]; exact HR2.out.theTg
    · have e0 : removeM S st ((j : Int) + 1) = (⟨st.texts, st.there, st.count + 1, i⟩, 25) := by
        unfold removeM
        rw [if_neg (by rw [hno]; simp), if_neg (by rw [h2]; exact (show ¬ (25 : Int) = 0 from by decide)), h2]
      rw [e0]
      rw [h2] at HCN
      have HLE := Lib.hid hlen
      clear h1 h2 e0 hno hlen
      go_enter Try.func66, Try.ntmps66
      go_wp2_with (first
        | (go_at_call 91; refine HIS.out.mono ?_; rintro e1 w1 ⟨rfl, rfl⟩)
        | (go_at_call 90; refine HCN.out.mono ?_; rintro e2 w2 ⟨rfl, hr2, hf2⟩))
      go_ret
      exact ⟨rfl, rleft_of_turn hr2 hf2⟩
set_option maxHeartbeats 4000000 in
set_option maxRecDepth 100000 in
theorem rwrite_any (r : Nat) (S : List (Int × Int)) (st : DS) (tg : Nat → Nat) (X : RX) (w : World) (h : RRep w r S st tg X) (hlen : st.there.length = st.texts.length) (h64 : st.texts.length ≤ 64) (hl : S.length ≤ 100000) (hc : st.count ≤ 1000000)
    (hsz : ∀ no, (st.text no).length ≤ 1000000) (no : Int) (ab : Option Addr) (cb : Nat) (b : List UInt8) (hb : At w ab (b.map bv)) (hbt : ∀ g off, ab = some ⟨g, off, none⟩ → 0 < b.length → tg g = 0) :
    Calls Try.prog 64 #[.pointer (some ⟨r, 0, none⟩), .int .i64 no, .slice ab b.length cb] w (RRemPost w r S (writeM S st no b) tg X.sa) := by
  have H := Lib.hid h
  have HIS := Lib.hid (ris_any r S st tg X w h hlen no h64)
  have HCN := Lib.hid (rcounts_any r S st tg X w h hl hc)
  unfold RCntPost at HCN
  have hsp := is_split st no
  cases hno : st.is no with
  | false =>
    have e0 : writeM S st no b = (st, 1) := by unfold writeM; rw [if_pos (.inl hno)]
    rw [e0]
    rw [hno] at HIS
    clear h hno e0 hlen hsp HCN hb hbt
    go_enter Try.func64, Try.ntmps64
    go_wp2_with (go_at_call 91; refine HIS.out.mono ?_; rintro e1 w1 ⟨rfl, rfl⟩)
    go_ret
    exact ⟨rfl, rleft_same H.out (Fr.refl _ _)⟩
  | true =>
    rw [hno] at HIS hsp
    obtain ⟨j, rfl, hj, _⟩ : ∃ j : Nat, no = (j : Int) + 1 ∧ j < st.texts.length ∧ True := by
      rcases hsp with ⟨_, e⟩ | ⟨_, e⟩ | ⟨j, e1, e2, _⟩
      · cases e
      · cases e
      · exact ⟨j, e1, e2, trivial⟩
    clear h hsp
    by_cases hb0 : b.length < 1
    · have e0 : writeM S st ((j : Int) + 1) b = (st, 1) := by unfold writeM; rw [if_pos (.inr (.inl hb0))]
      rw [e0]
      have hz : b.length = 0 := by omega
      rw [hz]
      clear e0 hb hbt hb0 hz hno hlen HCN
      go_enter Try.func64, Try.ntmps64
      go_wp2_with (go_at_call 91; refine HIS.out.mono ?_; rintro e1 w1 ⟨rfl, rfl⟩)
      go_ret
      exact ⟨rfl, rleft_same H.out (Fr.refl _ _)⟩
    · have hb1 : decide ((b.length : Int) < 1) = false := decide_eq_false (by omega)
      have hb1n : ¬ b.length < 1 := hb0
      by_cases hbm : 1024 < b.length
      · have e0 : writeM S st ((j : Int) + 1) b = (st, 1) := by unfold writeM; rw [if_pos (.inr (.inr hbm))]
        rw [e0]
        have hb3 : (1024 : Int) < b.length := by omega
        clear e0 hb hbt hno hlen HCN hbm
        go_enter Try.func64, Try.ntmps64
        go_wp2_with (go_at_call 91; refine HIS.out.mono ?_; rintro e1 w1 ⟨rfl, rfl⟩)
        go_ret
        exact ⟨rfl, rleft_same H.out (Fr.refl _ _)⟩
      · have hb3 : decide ((1024 : Int) < b.length) = false := decide_eq_false (by omega)
        have hb4 : ¬ (1024 : Int) < b.length := by omega
        rcases countsM_cases S st with ⟨h1, h2⟩ | ⟨i, h1, h2⟩
        · have e0 : writeM S st ((j : Int) + 1) b = (⟨st.texts.set j (st.texts[j] ++ b), st.there, st.count + 1, st.id⟩, 0) := by
            unfold writeM DS.text
            rw [if_neg (by rw [hno]; rintro (x | x | x); cases x; omega; omega), if_pos (by rw [h2]), h2, show ((j : Int) + 1).toNat - 1 = j from by omega, List.getD_eq_getElem?_getD, List.getElem?_eq_getElem hj]
            rfl
          have htl : st.texts[j].length ≤ 1000000 := by
            have := hsz ((j : Int) + 1)
            unfold DS.text at this
            rw [show ((j : Int) + 1).toNat - 1 = j from by omega, List.getD_eq_getElem?_getD, List.getElem?_eq_getElem hj] at this
            exact this
          rw [e0]
          rw [h2] at HCN
          have hj2 : (j : Int) < st.texts.length := by omega
          obtain ⟨g, o, hg, _⟩ := H.out.txt.get (j := j) hj
          have hgt : tg g = 2 := H.out.txtTg g (by rw [hg]; rfl)
          have HCE := Lib.hid (fun (W : World) (hr : RRep W r S ⟨st.texts, st.there, st.count + 1, st.id⟩ tg X) => show W.cell? ⟨g, o + j, none⟩ = some (sv st.texts[j]) ∧ W.frozen? ⟨g, o + j, none⟩ = false from by
            obtain ⟨g', o', hg', hc', hz'⟩ := hr.txt.get (j := j) hj
            rw [hg] at hg'
            injection hg' with e; injection e with e1 e2; subst e1; subst e2
            refine ⟨hc'.trans ?_, hz'⟩
            rw [List.getD_eq_getElem?_getD, List.getElem?_map, List.getElem?_eq_getElem hj]; rfl)
          have HAB := Lib.hid (fun (W : World) (f : Fr (fun x _ => x = r) w W) => show At W ab (b.map bv) from hb.fr f fun g off e _ i hi e2 => by
            have h0 : 0 < b.length := by simp at hi; omega
            have h3 := hbt g off e h0
            rw [e2, H.out.tgr] at h3; cases h3)
          generalize htx : st.texts[j] = tx at *
          have HLE := Lib.hid hlen; have HTX := Lib.hid htx
          have hap : (⟨tx.toArray⟩ : ByteArray) ++ ⟨b.toArray⟩ = ⟨(tx ++ b).toArray⟩ := by
            apply ByteArray.ext
            simp [ByteArray.data_append]
          have HAP := Lib.hid hap
          have z1 : ¬ 9223372036854775807 < tx.length + b.length := by omega
          clear h1 h2 e0 hno hlen hb hbt htx hap hbm
          go_enter Try.func64, Try.ntmps64
          go_wp2_with (first
            | (go_at_call 91; refine HIS.out.mono ?_; rintro e1 w1 ⟨rfl, rfl⟩)
            | (go_at_call 90; refine HCN.out.mono ?_; rintro e2 w2 ⟨rfl, hr2, hf2⟩
               obtain ⟨d0, d1, d2, d3, d4, dF⟩ := cells5 hr2.disk
               obtain ⟨hc2, hz2⟩ := HCE.out w2 hr2
               replace d1 : w2.cell? ⟨r, 1, none⟩ = some (.slice X.ta st.texts.length X.tc) := d1
               rw [hg] at d1
               have hcv2 : (convert 29 9 (.slice ab b.length cb)).run Try.prog w2.drew = .ok (.string ⟨b.toArray⟩) w2.drew := conv_at (at_nf (HAB.out w2 hf2) (Fr.refl No _).drew) Try.underlying29 Try.underlying5 Try.underlying9
               have HR2 := Lib.hid hr2; have HF2 := Lib.hid hf2
               clear hr2 hf2))
          have HG := Lib.hid hg; clear hg
          go_region
          go_wp2
          go_ret
          rw [HAP.out]
          have f3 : Fr (fun b _ => b = g) w2 (w2.setCell ⟨g, o + j, none⟩ (.string ⟨(tx ++ b).toArray⟩)).drew := (Fr.setCell (S := fun x _ => x = g) (Fr.refl _ _) (fun _ => rfl) _).drew
          refine ⟨rfl, tg, X, rfl, ?_, (HF2.out.mono fun b o _ e => by rw [e]; unfold Tg; rw [HR2.out.tgr]; decide).trans (f3.mono fun b o _ e => by rw [e]; unfold Tg; rw [hgt]; decide), fun _ _ => rfl⟩
          have hset : (st.texts.set j (tx ++ b)).map sv = (st.texts.map sv).set j (sv (tx ++ b)) := by rw [List.map_set]
          refine ⟨fun b hb => Nat.lt_of_lt_of_le (HR2.out.lt b hb) f3.size, ?_, HR2.out.tgr, ?_, ?_, HR2.out.the.fr f3 (fun b o hb e => by have := HR2.out.theTg b hb; rw [e, hgt] at this; cases this), HR2.out.theTg,
            HR2.out.scrAt.fr f3 (fun g' off e _ i hi e2 => by have := HR2.out.scrTg g' off e (scr_pos hi); rw [e2, hgt] at this; cases this), HR2.out.scrTg⟩
          · rw [List.length_set]
            exact (f3.block r (heap_lt HR2.out.disk) (fun _ e => by have := HR2.out.tgr; rw [e, hgt] at this; cases this)).trans HR2.out.disk
          · rw [hset, List.length_set]
            have := HR2.out.txt
            rw [HG.out] at this ⊢
            exact this.set hj _
          · rw [List.length_set]; exact HR2.out.txtTg
        · have e0 : writeM S st ((j : Int) + 1) b = (⟨st.texts, st.there, st.count + 1, i⟩, 25) := by
            unfold writeM
            rw [if_neg (by rw [hno]; rintro (x | x | x); cases x; omega; omega), if_neg (by rw [h2]; exact (show ¬ (25 : Int) = 0 from by decide)), h2]
          rw [e0]
          rw [h2] at HCN
          have HLE := Lib.hid hlen
          clear h1 h2 e0 hno hlen hb hbt hbm
          go_enter Try.func64, Try.ntmps64
          go_wp2_with (first
            | (go_at_call 91; refine HIS.out.mono ?_; rintro e1 w1 ⟨rfl, rfl⟩)
            | (go_at_call 90; refine HCN.out.mono ?_; rintro e2 w2 ⟨rfl, hr2, hf2⟩))
          go_ret
          exact ⟨rfl, rleft_of_turn hr2 hf2⟩
end Go.Proofs.Ytljldkknopmfhaa
