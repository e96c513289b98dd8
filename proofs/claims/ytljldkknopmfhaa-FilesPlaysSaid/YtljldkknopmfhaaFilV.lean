/- The document's disk: Create, Live; the laws' ints. -/
import Derived.Test.YtljldkknopmfhaaFilU
namespace Go.Proofs.Ytljldkknopmfhaa
open Go.RowKit Go.Maps Go

theorem info_int17 : (Try.prog.info? 3).map (fun i => (i.zero, i.size, i.bytes)) = some (some (.int .i64 0), 1, 8) := by kernel_rfl
theorem liveFrom_snoc : ∀ (l : List Bool) (b : Bool) (k : Nat), liveFrom (l ++ [b]) k = liveFrom l k ++ (if b then [((k + l.length + 1 : Nat) : Int)] else [])
  | [], b, k => by
    cases b <;> simp [liveFrom]
  | x :: l, b, k => by
    have ih := liveFrom_snoc l b (k + 1)
    have e : k + 1 + l.length + 1 = k + (x :: l).length + 1 := by rw [List.length_cons]; omega
    rw [List.cons_append]
    simp only [liveFrom]
    rw [ih, e]
    cases x <;> simp
theorem liveFrom_len : ∀ (l : List Bool) (k : Nat), (liveFrom l k).length ≤ l.length
  | [], _ => by simp [liveFrom]
  | x :: l, k => by
    have ih := liveFrom_len l (k + 1)
    cases x <;> simp [liveFrom] <;> omega
def LivePost (w : World) (l : List Int) (e : Ending) (w' : World) : Prop := ∃ a c, e = .returned (.slice a l.length c) ∧ At w' a (l.map iv) ∧ Fr No w w'
set_option maxHeartbeats 2000000 in
set_option maxRecDepth 100000 in
theorem rlive_any (r : Nat) (S : List (Int × Int)) (st : DS) (tg : Nat → Nat) (X : RX) (w : World) (h : RRep w r S st tg X) (hm : st.there.length ≤ 64) :
    Calls Try.prog 38 #[.pointer (some ⟨r, 0, none⟩)] w (LivePost w st.live) := by
  obtain ⟨j0, hj, jz0, jz1, jz2⟩ := info_parts info_int17
  have H := Lib.hid h
  clear h
  go_enter Try.func38, Try.ntmps38
  go_wp2
  go_loopw [3, 4] (fun v i wr => ∃ k : Nat, k ≤ st.there.length ∧ i = .int .i64 k ∧ ∃ a c, v = .slice a (liveFrom (st.there.take k) 0).length c ∧ Hid (OwnSl wr 3 1 (.slice a (liveFrom (st.there.take k) 0).length c) (liveFrom (st.there.take k) 0).length ((liveFrom (st.there.take k) 0).map iv)) ∧
      Hid (∀ b, (Value.slice a (liveFrom (st.there.take k) 0).length c).ownBlock = some b → w.heap.size ≤ b) ∧ Hid (Fr No w wr)) (fun _ i _ => st.there.length - (intOf i).toNat)
  case atStart => exact ⟨0, Nat.zero_le _, rfl, none, 0, by simp [liveFrom], Lib.hid (by simpa [liveFrom] using OwnSl.nil _ _ _), Lib.hid (by simp [Value.ownBlock]), Lib.hid (Fr.refl _ _)⟩
  case round =>
    obtain ⟨k, hk, rfl, a, c, rfl, HO, HB, HF⟩ := hrel
    have hr := H.out.keep HF.out
    obtain ⟨d0, d1, d2, d3, d4, dF⟩ := cells5 hr.disk
    by_cases hlt : k < st.there.length
    · obtain ⟨g, o, hg, hc, -⟩ := hr.the.get (j := k) hlt
      rw [hg] at d2
      rw [List.getD_eq_getElem?_getD, List.getElem?_map, List.getElem?_eq_getElem hlt] at hc
      simp only [Option.map_some, Option.getD_some, bo] at hc
      have hki : (k : Int) < st.there.length := by omega
      have htk : st.there.take (k + 1) = st.there.take k ++ [st.there[k]] := List.take_succ_eq_append_getElem hlt
      have hsn := liveFrom_snoc (st.there.take k) st.there[k] 0
      rw [← htk] at hsn
      have hll := liveFrom_len (st.there.take k) 0
      rw [List.length_take] at hll hsn
      rw [show 0 + min k st.there.length + 1 = k + 1 from by omega] at hsn
      have HSN := Lib.hid hsn
      clear hr hg htk hsn
      generalize st.there[k] = b at *
      generalize liveFrom (st.there.take k) 0 = lv at *
      generalize hlv2 : liveFrom (st.there.take (k + 1)) 0 = lv2 at *
      have HL2 := Lib.hid hlv2; clear hlv2
      cases b with
      | false =>
        have hs2 : lv2 = lv := by have := HSN.out; simpa using this
        subst hs2
        go_wp2
        go_roundw
        case rel =>
          refine ⟨k + 1, by omega, by go_num, a, c, ?_⟩
          rw [HL2.out]
          exact ⟨rfl, HO, HB, HF⟩
        case measure => simp [intOf]; omega
      | true =>
        have hs2 : lv2 = lv ++ [((k + 1 : Nat) : Int)] := by have := HSN.out; simpa using this
        have HS2 := Lib.hid hs2; clear hs2 HSN
        go_wp2_with (first
          | (at_builtin; refine wpList_append_sl rfl (.tmp 21) (.tmp 24) 57 57 rfl 3 j0 (.int .i64 0) 1 8 Try.underlying57 hj jz0 jz1 jz2 rfl (by decide) (.slice a lv.length c) lv.length (lv.map iv) rfl (HO.out.fr ((Fr.refl No _).alloc _) (fun _ _ _ x => x)) _ 1 [.int .i64 ((k : Int) + 1)] rfl (src_slice Try.underlying57 rfl (fun _ => ⟨wr.heap.size, 0, rfl, row_at wr _ _ rfl _ rfl 3 (0, 0)⟩) (by simp [Value.oneCell'])) (by omega) (by omega) ?_
             intro v3 w3 hown3 hfr3 hblk3
             obtain ⟨a3, c3, rfl, hat3, _⟩ := hown3.at
             have HO3 := Lib.hid hown3; have HF3 := Lib.hid hfr3; have HB3 := Lib.hid hblk3
             clear hown3 hfr3 hblk3 hat3))
        go_roundw
        case rel =>
          refine ⟨k + 1, by omega, by go_num, a3, c3, ?_⟩
          rw [HL2.out]
          refine ⟨?_, Lib.hid ?_, Lib.hid fun b e => ?_, Lib.hid ((HF.out.alloc _).step HF3.out fun x o hx e => ?_)⟩
          · rw [HS2.out]; simp
          · have := HO3.out
            rw [HS2.out]
            simpa [iv] using this
          · have e' : (Value.slice a3 (lv.length + 1) c3).ownBlock = some b := by rw [ownBlock_len a3 _ _ lv2.length c3]; exact e
            have hs := HF.out.size
            rcases HB3.out with h1 | h1
            · rw [h1] at e'; exact HB.out b e'
            · rw [h1] at e'; injection e' with e'; simp at e'; omega
          · have := HB.out x e; omega
        case measure => simp [intOf]; omega
    · obtain rfl : k = st.there.length := by omega
      have HT := Lib.hid (List.take_length (l := st.there))
      clear hr
      go_wp2
      go_ret
      obtain ⟨a', c', e', hat, _⟩ := HO.out.at
      injection e' with e1 e2 e3; subst e1
      rw [HT.out] at hat ⊢
      exact ⟨a, c, rfl, hat, HF.out⟩
def RBoolPost (w : World) (b : Bool) (e : Ending) (w' : World) : Prop := e = .returned (.bool b) ∧ Fr No w w'
/- Two rows of numbers: are they the same? -/
set_option maxRecDepth 100000 in
theorem ints_same (a b : Option Addr) (c c' : Nat) (l : List Int) (w : World) (ha : At w a (l.map iv)) (hb : At w b (l.map iv)) (hl : l.length ≤ 100000) :
    Calls Try.prog 36 #[.slice a l.length c, .slice b l.length c'] w (RBoolPost w true) := by
  have hli : (l.length : Int) ≤ 100000 := by omega
  have HA := Lib.hid ha; have HB := Lib.hid hb; clear ha hb
  go_enter Try.func36, Try.ntmps36
  go_wp2
  go_loopw [5] (fun i wr => ∃ k : Nat, k ≤ l.length ∧ i = .int .i64 k ∧ ∃ q, wr = w.drewN q) (fun i _ => l.length - (intOf i).toNat)
  case atStart => exact ⟨0, Nat.zero_le _, rfl, 0, rfl⟩
  case round =>
    obtain ⟨k, hk, rfl, q, rfl⟩ := hrel
    by_cases hlt : k < l.length
    · obtain ⟨ga, oa, rfl, hra⟩ := HA.out (by simp; omega)
      obtain ⟨gb, ob, rfl, hrb⟩ := HB.out (by simp; omega)
      have c1 := hra.get k (iv l[k]) (by simp [hlt])
      have c2 := hrb.get k (iv l[k]) (by simp [hlt])
      unfold iv at c1 c2
      have hki : (k : Int) < l.length := by omega
      clear hra hrb
      generalize l[k] = x at *
      go_wp2_with fail
      go_quiet (fail)
      go_wp2
      go_roundw
      case rel => exact ⟨k + 1, by omega, by go_num, q + nq, by simp⟩
      case measure => simp [intOf]; omega
    · obtain rfl : k = l.length := by omega
      go_wp2
      go_ret
      exact ⟨rfl, (Fr.refl _ _).drewN _⟩
end Go.Proofs.Ytljldkknopmfhaa
