/- A disk's Write. -/
import Derived.Test.YtljldkknopmfhaaFilC
import Derived.Test.YtljldkknopmfhaaBytes
namespace Go.Proofs.Ytljldkknopmfhaa
open Go.RowKit Go.Maps Go

theorem is_wrote {st : DS} (no : Int) (t : List UInt8) (c : Nat) (i : Int) (k : Int) : DS.is ⟨st.texts.set (no.toNat - 1) t, st.there, c, i⟩ k = st.is k := by
  unfold DS.is; simp
theorem text_wrote {st : DS} {k : Nat} (hk : st.is k = true) (t : List UInt8) (c : Nat) (i : Int) (q : Nat) (hq : st.is q = true) : DS.text ⟨st.texts.set (k - 1) t, st.there, c, i⟩ q = if q = k then t else st.text q := by
  unfold DS.is at hk hq
  simp only [Bool.and_eq_true, decide_eq_true_eq] at hk hq
  unfold DS.text
  simp only [Int.toNat_natCast, List.getD_eq_getElem?_getD]
  split
  · rename_i e; subst e
    rw [List.getElem?_set_self (by omega)]; rfl
  · rename_i e
    rw [List.getElem?_set_ne (by omega)]
/-- Bytes have been put behind a file's. -/
theorem DRep.wrote {w w' : World} {d : Nat} {S : List (Int × Int)} {st : DS} {tg : Nat → Nat} {X : DX} (h : DRep w d S st tg X) {k f : Nat} {v v' : Value} {t : List UInt8} (hk : st.is k = true)
    (hat : X.D.atKey (.int .i64 k) (.lit (.int .i64 (-1))) = .lit (.int .i64 f)) (tgf : tg f = 4 + 2 * k) (tgv : ∀ b, v.ownBlock = some b → tg b = 5 + 2 * k)
    (fr : Fr (fun b _ => b = f ∨ v.ownBlock = some b) w w') (hf : w'.heap[f]? = some (.cells #[v'] 86 (0, 0))) (hv' : OwnSl w' 5 1 v' t.length (t.map bv)) (hb : v'.ownBlock = v.ownBlock ∨ v'.ownBlock = some w.heap.size) :
    Left w d S ⟨st.texts.set (k - 1) t, st.there, st.count, st.id⟩ tg w' := by
  have hS : ∀ b, tg b ≠ 4 + 2 * k → tg b ≠ 5 + 2 * k → ¬ (b = f ∨ v.ownBlock = some b) := by
    rintro b n1 n2 (e | e)
    · subst e; exact n1 tgf
    · exact n2 (tgv b e)
  have keep : ∀ {b : Nat} {o : Obj}, w.heap[b]? = some o → tg b ≠ 4 + 2 * k → tg b ≠ 5 + 2 * k → w'.heap[b]? = some o := fun {b o} hb n1 n2 => (fr.block b (heap_lt hb) fun o => hS b n1 n2).trans hb
  let tg' : Nat → Nat := fun x => if v'.ownBlock = some x then 5 + 2 * k else tg x
  have low : ∀ b, b < w.heap.size → tg' b = tg b := by
    intro b hbl
    show (if v'.ownBlock = some b then 5 + 2 * k else tg b) = tg b
    split
    · rename_i e
      rcases hb with h1 | h1
      · rw [h1] at e; exact (tgv b e).symm
      · rw [h1] at e; injection e with e; omega
    · rfl
  have hd := h.tgd
  have hm := h.tgm
  have hs : ∀ (g : Nat) (off : Nat), X.sa = some ⟨g, off, none⟩ → 0 < S.length → g < w.heap.size := fun g off e h0 => by
    obtain ⟨g', off', e', hr⟩ := h.scrAt (by rw [scr_length]; omega)
    rw [e] at e'; injection e' with e'; injection e' with e1 e2; subst e1
    exact hr.lt (by rw [scr_length]; omega)
  refine ⟨tg', X, ⟨fun b hb' => ?_, ?_, (low d (heap_lt h.disk)).trans hd, (low _ h.own.lt).trans hm, ?_, ?_, fun g off e h0 => ?_, fun no => ?_, fun q hq => ?_⟩, ?_, low⟩
  · by_cases hbl : b < w.heap.size
    · exact Nat.lt_of_lt_of_le hbl fr.size
    · replace hb' : (if v'.ownBlock = some b then 5 + 2 * k else tg b) ≠ 0 := hb'
      split at hb'
      · rename_i e; exact hv'.lt b e
      · exact absurd (h.lt b hb') hbl
  · have := keep h.disk (by omega) (by omega)
    simpa using this
  · have := ownsMap_fr h.own fr fun o => hS _ (by omega) (by omega)
    simpa using this
  · refine h.scrAt.fr fr fun g off e hg i hi => hS g ?_ ?_
    all_goals
      have h0 : 0 < S.length := by rw [scr_length] at hi; omega
      have := h.scrTg g off e h0
      omega
  · rw [low g (hs g off e h0)]; exact h.scrTg g off e h0
  · have := is_wrote (st := st) (k : Int) t st.count st.id no
    simp only [Int.toNat_natCast] at this
    rw [this]; exact h.has no
  · have hq' : st.is q = true := by
      have := is_wrote (st := st) (k : Int) t st.count st.id q
      simp only [Int.toNat_natCast] at this
      rw [← this]; exact hq
    rw [text_wrote hk t st.count st.id q hq']
    by_cases e : q = k
    · subst e
      rw [if_pos rfl]
      refine ⟨f, v', hat, (low f ?_).trans tgf, hf, hv', fun b e => ?_⟩
      · exact h.lt f (by omega)
      · show (if v'.ownBlock = some b then 5 + 2 * q else tg b) = _
        rw [if_pos e]
    · rw [if_neg e]
      obtain ⟨p, u, h1, h2, h3, h4, h5⟩ := h.file q hq'
      refine ⟨p, u, h1, (low p (heap_lt h3)).trans h2, keep h3 (by omega) (by omega), h4.fr fr fun b o hb' => hS b ?_ ?_, fun b hb' => (low b (h4.lt b hb')).trans (h5 b hb')⟩
      · have := h5 b hb'; omega
      · have := h5 b hb'; omega
  · refine fr.mono fun b o _ e => ?_
    rcases e with e | e
    · subst e; unfold Tg; omega
    · have := tgv b e; unfold Tg; omega
theorem Left.from {w w1 w' : World} {d : Nat} {S : List (Int × Int)} {st' : DS} {tg : Nat → Nat} (h : Left w1 d S st' tg w') (f : Fr (Tg tg) w w1) : Left w d S st' tg w' := by
  obtain ⟨tg', X', h1, h2, h3⟩ := h
  exact ⟨tg', X', h1, f.trans h2, fun b hb => h3 b (Nat.lt_of_lt_of_le hb f.size)⟩
set_option maxHeartbeats 2000000 in
set_option maxRecDepth 100000 in
theorem write_any (d : Nat) (S : List (Int × Int)) (st : DS) (tg : Nat → Nat) (X : DX) (w : World) (h : DRep w d S st tg X) (hl : S.length ≤ 100000) (hc : st.count ≤ 1000000) (hsz : ∀ no, (st.text no).length ≤ 1000000) (no : Int) (hw : (Lit.int .i64 no).wf = true)
    (ab : Option Addr) (cb : Nat) (b : List UInt8) (hb : At w ab (b.map bv)) (hbt : ∀ g off, ab = some ⟨g, off, none⟩ → 0 < b.length → tg g = 0) :
    Calls Try.prog 21 #[.pointer (some ⟨d, 0, none⟩), .int .i64 no, .slice ab b.length cb] w (RemPost w d S (writeM S st no b) tg) := by
  obtain ⟨j0, hj, jz0, jz1, jz2⟩ := info_parts Try.info5
  have H := Lib.hid h
  have HCN := Lib.hid (fun (W : World) (f : Fr No w W) => counts_any d S st tg X W (h.fr f (fun _ _ _ x => x)) hl hc)
  cases hno : st.is no with
  | false =>
    have e0 : writeM S st no b = (st, 1) := by unfold writeM; rw [if_pos (.inl hno)]
    rw [e0]
    have HAT := Lib.hid (at_no_any d S st tg X w h no hw hno)
    clear h hno e0 hb hbt
    go_enter Try.func21, Try.ntmps21
    go_wp2_with (go_at_call 57; refine HAT.out.mono ?_; rintro e1 w1 ⟨rfl, hf1⟩)
    go_ret
    exact ⟨rfl, left_same H.out hf1⟩
  | true =>
    obtain ⟨k, p, v, rfl, hp, hpt, hph, hpo, hpb⟩ := h.at hno
    have HAT := Lib.hid (at_yes_any d S st tg X w h k hw hno p hp)
    have hm := h.tgm
    have htd := h.tgd
    clear h
    by_cases hb0 : b.length < 1
    · have e0 : writeM S st k b = (st, 1) := by unfold writeM; rw [if_pos (.inr (.inl hb0))]
      rw [e0]
      have hz : b.length = 0 := by omega
      rw [hz]
      clear e0 hb hbt hb0 hz hno hp hpo hpb hpt hph
      go_enter Try.func21, Try.ntmps21
      go_wp2_with (go_at_call 57; refine HAT.out.mono ?_; rintro e1 w1 ⟨rfl, hf1⟩)
      go_ret
      exact ⟨rfl, left_same H.out hf1⟩
    · have hb1 : ((b.length : Int) == 0) = false := by simp only [beq_eq_false_iff_ne]; omega
      have hb2 : (b.length == 0) = false := by simp only [beq_eq_false_iff_ne]; omega
      by_cases hbm : 1024 < b.length
      · have e0 : writeM S st k b = (st, 1) := by unfold writeM; rw [if_pos (.inr (.inr hbm))]
        rw [e0]
        have hb3 : (1024 : Int) < b.length := by omega
        clear e0 hb hbt hb0 hno hp hpo hpb hpt hph
        go_enter Try.func21, Try.ntmps21
        go_wp2_with (go_at_call 57; refine HAT.out.mono ?_; rintro e1 w1 ⟨rfl, hf1⟩)
        go_ret
        exact ⟨rfl, left_same H.out hf1⟩
      · have hb3 : decide ((1024 : Int) < b.length) = false := decide_eq_false (by omega)
        have hb4 : ¬ (1024 : Int) < b.length := by omega
        rcases countsM_cases S st with ⟨h1, h2⟩ | ⟨i, h1, h2⟩
        · have e0 : writeM S st k b = (⟨st.texts.set (k - 1) (st.text k ++ b), st.there, st.count + 1, st.id⟩, 0) := by
            unfold writeM; rw [if_neg (by rw [hno]; rintro (x | x | x); cases x; omega; omega), if_pos (by rw [h2]), h2]; simp
          rw [e0]
          unfold CntPost at HCN
          rw [h2] at HCN
          have htl := hsz k
          have HB := Lib.hid hb; have HBT := Lib.hid hbt; have HNO := Lib.hid hno; have HP := Lib.hid hp; have HPB := Lib.hid hpb; have HPO := Lib.hid hpo; have HPT := Lib.hid hpt; have HPH := Lib.hid hph
          have HBF := Lib.hid (fun (W : World) (f : Fr (fun b _ => b = d) w W) => show At W ab (b.map bv) from hb.fr f (fun g off e _ i hi e2 => by
            have h0 : 0 < b.length := by simp at hi; omega
            have h1 := hbt g off e h0
            rw [e2, htd] at h1; cases h1))
          have hpl := heap_lt hph
          have hpd : p ≠ d := by intro e; rw [e, htd] at hpt; omega
          clear h1 h2 e0 hb hbt hb0 hbm hno hp hpo hpb hpt hph
          generalize st.text k = tx at *
          go_enter Try.func21, Try.ntmps21
          go_wp2_with (first
            | (go_at_call 57; refine HAT.out.mono ?_; rintro e1 w1 ⟨rfl, hf1⟩)
            | (go_at_call 56; refine (HCN.out _ hf1).mono ?_; rintro e2 w2 ⟨rfl, hr2, hf2⟩
               have hF2 : Fr (fun b _ => b = d) w w2 := (hf1.mono (fun _ _ _ x => x.elim)).trans hf2
               have hph2 : w2.heap[p]? = some (.cells #[v] 86 (0, 0)) := (hF2.block p hpl (fun _ e => hpd e)).trans HPH.out
               have hcp : w2.cell? ⟨p, 0, none⟩ = some v := cell_block hph2 0
               have hpo2 := HPO.out.fr hF2 (fun b o e e2 => by have := HPB.out b e; rw [e2, htd] at this; omega)
               have hb2' := HBF.out w2 hF2
               have HR2 := Lib.hid hr2; have HF2 := Lib.hid hF2; have HPO2 := Lib.hid hpo2; have HB2 := Lib.hid hb2'; have HPH2 := Lib.hid hph2
               clear hr2 hf2 hF2 hpo2 hb2' hph2)
            | (at_builtin; refine wpList_append_sl rfl (.tmp 33) (.tmp 34) 29 29 rfl 5 j0 (.int .u8 0) 1 1 Try.underlying29 hj jz0 jz1 jz2 rfl (by decide) v tx.length (tx.map bv) rfl HPO2.out _ b.length (b.map bv) rfl (src_slice Try.underlying29 (by simp) HB2.out (by simp [Value.oneCell'])) (by omega) (by omega) ?_
               intro v3 w3 hown3 hfr3 hblk3
               obtain ⟨a3, c3, rfl, hat3, _⟩ := hown3.at
               clear hat3
               have HO3 := Lib.hid hown3; have HF3 := Lib.hid hfr3; have HB3 := Lib.hid hblk3
               have hvp : v.ownBlock ≠ some p := by
                 intro e; have h1 := HPB.out p e; have h2 := HPT.out; omega
               have hph3 : w3.heap[p]? = some (.cells #[v] 86 (0, 0)) := (hfr3.block p (heap_lt HPH2.out) (fun _ e => hvp e)).trans HPH2.out
               have hcp3 : w3.cell? ⟨p, 0, none⟩ = some v := cell_block hph3 0
               have hfz3 : w3.frozen? ⟨p, 0, none⟩ = false := frozen_block hph3 0
               have HPH3 := Lib.hid hph3
               clear hown3 hfr3 hblk3 hph3))
          go_ret
          have h3 := HO3.out
          rw [← List.map_append, ← List.length_append] at h3
          rw [← List.length_append] at HB3
          have hne : ∀ x, (Value.slice a3 (tx ++ b).length c3).ownBlock = some x → x ≠ p := by
            intro x e e2
            rcases HB3.out with h | h
            · rw [h, e2] at e; exact hvp e
            · have := heap_lt HPH2.out; rw [h, e2] at e; injection e with e; omega
          have f4 : Fr (fun x _ => x = p) w3 (w3.setCell ⟨p, 0, none⟩ (.slice a3 (tx ++ b).length c3)) := Fr.setCell (S := fun x _ => x = p) (Fr.refl _ _) (fun _ => rfl) _
          rw [← List.length_append]
          refine ⟨rfl, (HR2.out.wrote (v := v) (t := tx ++ b) HNO.out HP.out HPT.out HPB.out ?_ ?_ ?_ HB3.out).from ?_⟩
          · exact (HF3.out.mono fun x o _ e => .inr e).trans (f4.mono fun x o _ e => .inl e)
          · rw [setCell_eq_setRow w3 p 0 _ _ _ _ HPH3.out]
            exact setRow_heap w3 p _ _ _ _ HPH3.out
          · exact h3.fr f4 fun x o e e2 => hne x e e2
          · exact HF2.out.mono fun x o _ e => by subst e; unfold Tg; rw [htd]; decide
        · have e0 : writeM S st k b = (⟨st.texts, st.there, st.count + 1, i⟩, 25) := by
            unfold writeM; rw [if_neg (by rw [hno]; rintro (x | x | x); cases x; omega; omega), if_neg (by rw [h2]; simp), h2]
          rw [e0]
          unfold CntPost at HCN
          rw [h2] at HCN
          clear h1 h2 e0 hb hbt hb0 hbm hno hp hpo hpb hpt hph
          go_enter Try.func21, Try.ntmps21
          go_wp2_with (first
            | (go_at_call 57; refine HAT.out.mono ?_; rintro e1 w1 ⟨rfl, hf1⟩)
            | (go_at_call 56; refine (HCN.out _ hf1).mono ?_; rintro e2 w2 ⟨rfl, hr2, hf2⟩))
          go_ret
          exact ⟨rfl, left_of_turn hr2 htd ((hf1.mono (fun _ _ _ x => x.elim)).trans hf2)⟩
end Go.Proofs.Ytljldkknopmfhaa
