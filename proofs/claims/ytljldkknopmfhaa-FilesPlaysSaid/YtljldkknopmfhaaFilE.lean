/- A disk's Read. -/
import Derived.Test.YtljldkknopmfhaaFilD
namespace Go.Proofs.Ytljldkknopmfhaa
open Go.RowKit Go.Maps Go

def ReadPost (w : World) (d : Nat) (S : List (Int × Int)) (r : DS × List UInt8 × Int) (tg : Nat → Nat) (X : DX) (e : Ending) (w' : World) : Prop :=
  ∃ a c, e = .returned (.tuple #[.slice a r.2.1.length c, .int .i64 r.2.2]) ∧ OwnSl w' 5 1 (.slice a r.2.1.length c) r.2.1.length (r.2.1.map bv) ∧ DRep w' d S r.1 tg X ∧ Fr (fun b _ => b = d) w w' ∧
    ∀ b, (Value.slice a r.2.1.length c).ownBlock = some b → w.heap.size ≤ b
theorem toD (d : Nat) {W W' : World} (f : Fr No W W') : Fr (fun b _ => b = d) W W' := f.mono (fun _ _ _ x => x.elim)
theorem read_none {w w' : World} {d : Nat} {S : List (Int × Int)} {st : DS} {tg : Nat → Nat} {X : DX} {er : Int} (h : DRep w' d S st tg X) (f : Fr (fun b _ => b = d) w w') :
    ReadPost w d S (st, [], er) tg X (.returned (.tuple #[.slice none 0 0, .int .i64 er])) w' := ⟨none, 0, rfl, OwnSl.nil _ _ _, h, f, by simp [Value.ownBlock]⟩
set_option maxHeartbeats 2000000 in
set_option maxRecDepth 100000 in
theorem read_any (d : Nat) (S : List (Int × Int)) (st : DS) (tg : Nat → Nat) (X : DX) (w : World) (h : DRep w d S st tg X) (hl : S.length ≤ 100000) (hc : st.count ≤ 1000000) (hsz : ∀ no, (st.text no).length ≤ 1000000) (no : Int) (hw : (Lit.int .i64 no).wf = true) (po mo : Int) :
    Calls Try.prog 22 #[.pointer (some ⟨d, 0, none⟩), .int .i64 no, .int .i64 po, .int .i64 mo] w (ReadPost w d S (readM S st no po mo) tg X) := by
  obtain ⟨j0, hj, jz0, jz1, jz2⟩ := info_parts Try.info5
  have H := Lib.hid h
  have HCN := Lib.hid (fun (W : World) (f : Fr No w W) => counts_any d S st tg X W (h.fr f (fun _ _ _ x => x)) hl hc)
  cases hno : st.is no with
  | false =>
    have e0 : readM S st no po mo = (st, [], 1) := by unfold readM; rw [if_pos (.inl hno)]
    rw [e0]
    have HAT := Lib.hid (at_no_any d S st tg X w h no hw hno)
    clear h hno e0
    go_enter Try.func22, Try.ntmps22
    go_wp2_with (go_at_call 57; refine HAT.out.mono ?_; rintro e1 w1 ⟨rfl, hf1⟩)
    go_ret2
    exact read_none (H.out.fr hf1 (fun _ _ _ x => x)) (toD d hf1)
  | true =>
    obtain ⟨k, p, v, rfl, hp, hpt, hph, hpo, hpb⟩ := h.at hno
    have HAT := Lib.hid (at_yes_any d S st tg X w h k hw hno p hp)
    have htd := h.tgd
    have htl := hsz k
    have e00 : readM S st k po mo = if po < 0 ∨ (st.text k).length < po ∨ mo < 1 then (st, [], 1)
        else if (countsM S st).2 = 0 then ((countsM S st).1, ((st.text k).drop po.toNat).take mo.toNat, 0) else ((countsM S st).1, [], 25) := by
      unfold readM; rw [hno]; simp
    rw [e00]
    clear h e00 hno hp
    generalize st.text k = tx at *
    obtain ⟨av, cv, rfl, hat, hcap⟩ := hpo.at
    have hpl := heap_lt hph
    have hpd : p ≠ d := by intro e; rw [e, htd] at hpt; omega
    have cp : w.cell? ⟨p, 0, none⟩ = some (.slice av tx.length cv) := cell_block hph 0
    have HPH := Lib.hid hph; have HA := Lib.hid hat; have HPB := Lib.hid hpb
    clear hpt hph hpo hpb hat
    by_cases h1 : po < 0
    · rw [if_pos (.inl h1)]
      go_enter Try.func22, Try.ntmps22
      go_wp2_with (first
        | (go_at_call 57; refine HAT.out.mono ?_; rintro e1 w1 ⟨rfl, hf1⟩))
      go_ret2
      exact read_none (H.out.fr hf1 (fun _ _ _ x => x)) (toD d hf1)
    · obtain ⟨q, rfl⟩ : ∃ q : Nat, po = q := ⟨po.toNat, by omega⟩
      clear h1
      by_cases h2 : tx.length < q
      · rw [if_pos (.inr (.inl (by omega)))]
        have h2i : (tx.length : Int) < q := by omega
        go_enter Try.func22, Try.ntmps22
        go_wp2_with (first
          | (go_at_call 57; refine HAT.out.mono ?_; rintro e1 w1 ⟨rfl, hf1⟩
             have cp1 := (hf1.at.1 p 0 hpl).trans cp))
        go_ret2
        exact read_none (H.out.fr hf1 (fun _ _ _ x => x)) (toD d hf1)
      · have h2i : ¬ (tx.length : Int) < q := by omega
        have h2d : decide ((tx.length : Int) < q) = false := decide_eq_false h2i
        by_cases h3 : mo < 1
        · rw [if_pos (.inr (.inr h3))]
          go_enter Try.func22, Try.ntmps22
          go_wp2_with (first
            | (go_at_call 57; refine HAT.out.mono ?_; rintro e1 w1 ⟨rfl, hf1⟩
               have cp1 := (hf1.at.1 p 0 hpl).trans cp))
          go_ret2
          exact read_none (H.out.fr hf1 (fun _ _ _ x => x)) (toD d hf1)
        · have h3d : decide (mo < 1) = false := decide_eq_false h3
          rw [if_neg (by omega)]
          rcases countsM_cases S st with ⟨h4, h5⟩ | ⟨i, h4, h5⟩
          · unfold CntPost at HCN
            rw [h5] at HCN ⊢
            rw [if_pos rfl]
            by_cases hm : mo < ((tx.length - q : Nat) : Int)
            · obtain ⟨m, rfl⟩ : ∃ m : Nat, mo = m := ⟨mo.toNat, by omega⟩
              have htk : (tx.drop ((q : Int)).toNat).take ((m : Int)).toNat = (tx.drop q).take m := by
                rw [Int.toNat_natCast, Int.toNat_natCast]
              have hs1 : ∀ W : World, (Instr.slice 29 (.slice av tx.length cv) (some (.int .i64 q)) none none).run Try.prog W = .ok (.slice (subA av cv q 1) (tx.length - q) (cv - q)) W := fun W => by
                have := run_slice_from (P := Try.prog) W 29 5 av tx.length cv q j0 Try.underlying29 hj (by omega)
                rwa [jz1] at this
              have hs2 : ∀ W : World, (Instr.slice 29 (.slice (subA av cv q 1) (tx.length - q) (cv - q)) none (some (.int .i64 (m : Nat))) none).run Try.prog W = .ok (.slice (subA av cv q 1) (m) (cv - q)) W := fun W =>
                run_slice_to W 29 5 _ _ _ (m) j0 Try.underlying29 hj (by omega)
              rw [htk]
              have hlen : ((tx.drop q).take (m)).length = m := by simp; try omega
              have HCL := Lib.hid (fun (W : World) (f : Fr (fun b _ => b = d) w W) => clone_any (subA av cv q 1) (m) (cv - q) ((tx.drop q).take (m)) W hlen.symm (by
                rw [List.map_take, List.map_drop]
                refine ((HA.out.fr f fun g off e hg i hi e2 => ?_).sub (by simp; omega)).take (m)
                have := HPB.out g (by rw [e]; rfl)
                rw [e2, htd] at this; omega) (by omega))
              generalize (tx.drop q).take (m) = o at *
              clear h4 h5 h3 h2 htk hlen
              go_enter Try.func22, Try.ntmps22
              go_wp2_with (first
                | (go_at_call 57; refine HAT.out.mono ?_; rintro e1 w1 ⟨rfl, hf1⟩
                   have cp1 := (hf1.at.1 p 0 hpl).trans cp)
                | (go_at_call 56; refine (HCN.out _ hf1).mono ?_; rintro e2 w2 ⟨rfl, hr2, hf2⟩
                   have hF2 : Fr (fun b _ => b = d) w w2 := (toD d hf1).trans hf2
                   have cp2 : w2.cell? ⟨p, 0, none⟩ = some (.slice av tx.length cv) := (hF2.cell p 0 hpl (fun e => hpd e)).trans cp
                   have HR2 := Lib.hid hr2; have HF2 := Lib.hid hF2
                   clear hr2 hf2 hF2)
                | (go_at_call 58; refine (HCL.out _ HF2.out).mono ?_; rintro e3 w3 ⟨a3, c3, rfl, hown3, hf3, hb3⟩))
              go_ret2
              exact ⟨a3, c3, rfl, hown3, HR2.out.fr hf3 (fun _ _ _ x => x), HF2.out.trans (toD d hf3), fun b e => Nat.le_trans HF2.out.size (hb3 b e)⟩
            · have htk : (tx.drop ((q : Int)).toNat).take mo.toNat = (tx.drop q).take (tx.length - q) := by
                rw [Int.toNat_natCast, List.take_of_length_le (by simp; omega), List.take_of_length_le (by simp)]
              have hmd : decide (mo < ((tx.length - q : Nat) : Int)) = false := decide_eq_false hm
              have hs1 : ∀ W : World, (Instr.slice 29 (.slice av tx.length cv) (some (.int .i64 q)) none none).run Try.prog W = .ok (.slice (subA av cv q 1) (tx.length - q) (cv - q)) W := fun W => by
                have := run_slice_from (P := Try.prog) W 29 5 av tx.length cv q j0 Try.underlying29 hj (by omega)
                rwa [jz1] at this
              have hs2 : ∀ W : World, (Instr.slice 29 (.slice (subA av cv q 1) (tx.length - q) (cv - q)) none (some (.int .i64 (tx.length - q : Nat))) none).run Try.prog W = .ok (.slice (subA av cv q 1) (tx.length - q) (cv - q)) W := fun W =>
                run_slice_to W 29 5 _ _ _ (tx.length - q) j0 Try.underlying29 hj (by omega)
              rw [htk]
              have hlen : ((tx.drop q).take (tx.length - q)).length = tx.length - q := by simp; try omega
              have HCL := Lib.hid (fun (W : World) (f : Fr (fun b _ => b = d) w W) => clone_any (subA av cv q 1) (tx.length - q) (cv - q) ((tx.drop q).take (tx.length - q)) W hlen.symm (by
                rw [List.map_take, List.map_drop]
                refine ((HA.out.fr f fun g off e hg i hi e2 => ?_).sub (by simp; omega)).take (tx.length - q)
                have := HPB.out g (by rw [e]; rfl)
                rw [e2, htd] at this; omega) (by omega))
              generalize (tx.drop q).take (tx.length - q) = o at *
              clear h4 h5 h3 h2 htk hlen
              go_enter Try.func22, Try.ntmps22
              go_wp2_with (first
                | (go_at_call 57; refine HAT.out.mono ?_; rintro e1 w1 ⟨rfl, hf1⟩
                   have cp1 := (hf1.at.1 p 0 hpl).trans cp)
                | (go_at_call 56; refine (HCN.out _ hf1).mono ?_; rintro e2 w2 ⟨rfl, hr2, hf2⟩
                   have hF2 : Fr (fun b _ => b = d) w w2 := (toD d hf1).trans hf2
                   have cp2 : w2.cell? ⟨p, 0, none⟩ = some (.slice av tx.length cv) := (hF2.cell p 0 hpl (fun e => hpd e)).trans cp
                   have HR2 := Lib.hid hr2; have HF2 := Lib.hid hF2
                   clear hr2 hf2 hF2)
                | (go_at_call 58; refine (HCL.out _ HF2.out).mono ?_; rintro e3 w3 ⟨a3, c3, rfl, hown3, hf3, hb3⟩))
              go_ret2
              exact ⟨a3, c3, rfl, hown3, HR2.out.fr hf3 (fun _ _ _ x => x), HF2.out.trans (toD d hf3), fun b e => Nat.le_trans HF2.out.size (hb3 b e)⟩
          · unfold CntPost at HCN
            rw [h5] at HCN ⊢
            rw [if_neg (show ¬ (25 : Int) = 0 from by decide)]
            clear h4 h5 h3 h2
            go_enter Try.func22, Try.ntmps22
            go_wp2_with (first
              | (go_at_call 57; refine HAT.out.mono ?_; rintro e1 w1 ⟨rfl, hf1⟩
                 have cp1 := (hf1.at.1 p 0 hpl).trans cp)
              | (go_at_call 56; refine (HCN.out _ hf1).mono ?_; rintro e2 w2 ⟨rfl, hr2, hf2⟩))
            go_ret2
            exact read_none hr2 ((toD d hf1).trans hf2)
end Go.Proofs.Ytljldkknopmfhaa
