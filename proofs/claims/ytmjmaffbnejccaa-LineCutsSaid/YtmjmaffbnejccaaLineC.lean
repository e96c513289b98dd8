/- Helpers of the laws: same, all; and Cut of whatever slice. -/
import Derived.Test.YtmjmaffbnejccaaLineA
import Derived.Test.YtmjmaffbnejccaaLineR
namespace Go.Proofs.Ytmjmaffbnejccaa
open Go.RowKit

/-- Cut, of whatever slice. -/
theorem cut_calls (b o n c : Nat) (xa : Option Addr) (cs bs : List UInt8) (w : World) (h : SplAt w b o cs false) (hn : n = bs.length) (hx : At w xa (bs.map bv)) (hgb : ∀ g off, xa = some ⟨g, off, none⟩ → g ≠ b ∨ bs = []) (hbs : bs.length ≤ 1000000) :
    Calls Try.prog 12 #[.pointer (some ⟨b, o, none⟩), .slice xa n c] w (CutPost w b o (cutM bs cs [])) := by
  subst hn
  rcases Nat.eq_zero_or_pos bs.length with h0 | h0
  · obtain rfl : bs = [] := List.eq_nil_of_length_eq_zero h0
    exact cut_none b o c xa cs w h
  · obtain ⟨g, off, rfl, hr⟩ := hx (by simpa using h0)
    exact cut_any b o g off c cs bs w h hr.bts ((hgb g off rfl).resolve_right (by rintro rfl; simp at h0)) hbs

theorem same_true (a a' : Option Addr) (n n' c c' : Nat) (xs : List (List UInt8)) (w : World) (hn : n = xs.length) (hn' : n' = xs.length) (ha : At w a (xs.map sv)) (ha' : At w a' (xs.map sv)) (hl : xs.length ≤ 1000000) :
    Calls Try.prog 14 #[.slice a n c, .slice a' n' c'] w (TruePost w) := by
  subst hn; subst hn'
  have hb : ((xs.length : Int) != xs.length) = false := by simp
  go_enter Try.func14, Try.ntmps14
  go_wp2
  go_loopw [5] (fun i wr => ∃ k : Nat, k ≤ xs.length ∧ i = .int .i64 k ∧ Fr No w wr) (fun i _ => xs.length - (intOf i).toNat)
  case atStart => exact ⟨0, Nat.zero_le _, rfl, Fr.refl _ _⟩
  case round =>
    obtain ⟨k, hk, rfl, hfr⟩ := hrel
    by_cases hlt : k < xs.length
    · obtain ⟨g, off, rfl, hrow⟩ := ha (by simp; omega)
      obtain ⟨g', off', rfl, hrow'⟩ := ha' (by simp; omega)
      have h1 := (hrow.fr hfr (fun _ _ x => x)).get k (sv xs[k]) (by simp [hlt])
      have h2 := (hrow'.fr hfr (fun _ _ x => x)).get k (sv xs[k]) (by simp [hlt])
      have hki : (k : Int) < xs.length := by omega
      have hk0 : (0 : Int) ≤ k := by omega
      go_wp2_with fail
      go_quiet (fail)
      go_wp2
      go_roundw
      case rel => exact ⟨k + 1, by omega, by go_num, hfr.drewN nq⟩
      case measure => simp [intOf]; omega
    · obtain rfl : k = xs.length := by omega
      go_wp2
      go_ret
      exact ⟨rfl, hfr⟩

theorem cutM_acc : ∀ (a cs : List UInt8) (acc : List (List UInt8)), cutM a cs acc = (acc ++ (cutM a cs []).1, (cutM a cs []).2)
  | [], cs, acc => by simp [cutM]
  | x :: xs, cs, acc => by
    rw [cutM, cutM]
    split
    · rw [cutM_acc xs [] (acc ++ [cs]), cutM_acc xs [] ([] ++ [cs])]; simp
    · split
      · simp
      · rw [cutM_acc xs (cs ++ [x]) acc]
theorem cutM_app : ∀ (a b cs : List UInt8) (acc : List (List UInt8)), cutM (a ++ b) cs acc = if (cutM a cs acc).2.2 then cutM a cs acc else cutM b (cutM a cs acc).2.1 (cutM a cs acc).1
  | [], b, cs, acc => by simp [cutM]
  | x :: xs, b, cs, acc => by
    rw [List.cons_append, cutM, cutM]
    split
    · exact cutM_app xs b [] (acc ++ [cs])
    · split
      · simp
      · exact cutM_app xs b (cs ++ [x]) acc

/-- The lines of bytes that have ended, with the rest; and the error. -/
def wholeM (b : List UInt8) : List (List UInt8) × Int :=
  if (cutM b [] []).2.2 then ((cutM b [] []).1, 20) else (if (cutM b [] []).2.1 = [] then (cutM b [] []).1 else (cutM b [] []).1 ++ [(cutM b [] []).2.1], 0)

def AllPost (w : World) (r : List (List UInt8) × Int) (e : Ending) (w' : World) : Prop :=
  ∃ a n c, e = .returned (.tuple #[.slice a n c, .int .i64 r.2]) ∧ n = r.1.length ∧ At w' a (r.1.map sv) ∧ Fr No w w'

theorem joined_take (ps : List (List UInt8)) (k : Nat) (h : k < ps.length) : (ps.take (k + 1)).flatten = (ps.take k).flatten ++ ps[k] := by
  rw [List.take_succ_eq_append_getElem h, List.flatten_append]; simp
theorem joined_le (ps : List (List UInt8)) (k : Nat) : (ps.take k).flatten.length ≤ ps.flatten.length := by
  conv => rhs; rw [← List.take_append_drop k ps, List.flatten_append]
  simp

set_option maxHeartbeats 1000000 in
set_option maxRecDepth 100000 in
theorem all_any (a : Option Addr) (n c : Nat) (ps : List (List UInt8)) (w : World) (hn : n = ps.length) (ha : AtP w a ps) (hl : ps.flatten.length ≤ 100000) (hl2 : ps.length ≤ 100000) :
    Calls Try.prog 19 #[.slice a n c] w (AllPost w (wholeM ps.flatten)) := by
  subst hn
  obtain ⟨j0, hj, jz0, jz1, jz2⟩ := info_parts Try.info9
  have hz := zero_spl
  have hs := splZero_size
  go_enter Try.func19, Try.ntmps19
  go_wp2
  clear hz hs
  go_loopw [5, 6] (fun v i wr => ∃ (k : Nat) (acc : List (List UInt8)) (cs : List UInt8), k ≤ ps.length ∧ i = .int .i64 k ∧ OwnSl wr 9 1 v acc.length (acc.map sv) ∧ (∀ g, v.ownBlock = some g → w.heap.size < g) ∧
      SplAt wr w.heap.size 0 cs false ∧ Fr No w wr ∧ cutM (ps.take k).flatten [] [] = (acc, cs, false)) (fun _ i _ => ps.length - (intOf i).toNat)
  case atStart => exact ⟨0, [], [], Nat.zero_le _, rfl, OwnSl.nil _ _ _, by simp [Value.ownBlock], spl_new w splZero 29 0 (by simp), (Fr.refl No w).alloc _, rfl⟩
  case round =>
    obtain ⟨k, acc, cs, hk, rfl, hown, hob, hspl, hfr, hM⟩ := hrel
    by_cases hlt : k < ps.length
    · have hjt := joined_take ps k hlt
      have hjl := joined_le ps (k + 1)
      obtain ⟨g, off, rfl, hrow⟩ := ha (by omega)
      obtain ⟨xa, c1, hc1, hxa⟩ := hrow k hlt
      have hbw := World.block_lt_of_cell? w _ hc1
      have hcell : wr.cell? ⟨g, off + k, none⟩ = some (.slice xa ps[k].length c1) := by rw [hfr.cell _ _ hbw (fun x => x)]; exact hc1
      have hxr := hxa.fr hfr (fun _ _ _ _ _ _ x => x)
      have hxb : ∀ g off, xa = some ⟨g, off, none⟩ → g ≠ w.heap.size ∨ ps[k] = [] := by
        intro g off e
        rcases Nat.eq_zero_or_pos (ps[k]).length with h0 | h0
        · exact .inr (List.eq_nil_of_length_eq_zero h0)
        · obtain ⟨g', off', e', hr'⟩ := hxa (by simpa using h0)
          rw [e] at e'; cases e'
          have := hr'.lt (by simpa using h0)
          left; omega
      have hal : acc.length ≤ 100000 := by
        have h1 := cutM_len (ps.take k).flatten [] []
        have h2 := joined_le ps k
        rw [hM] at h1
        simp only [List.length_nil] at h1
        omega
      have hpl : ps[k].length ≤ 100000 := by rw [hjt, List.length_append] at hjl; omega
      have hA := cutM_app (ps.take k).flatten ps[k] [] []
      rw [hM, if_neg (by simp), ← hjt, cutM_acc ps[k] cs acc] at hA
      have hW : wholeM ps.flatten = wholeM ((ps.take (k + 1)).flatten ++ (ps.drop (k + 1)).flatten) := by rw [← List.flatten_append, List.take_append_drop]
      clear hjt hjl hc1 hrow
      generalize ps[k] = p at *
      have hll := cutM_len p cs []
      generalize hr : cutM p cs [] = r at *
      obtain ⟨ls, rs, fl⟩ := r
      simp only [List.length_nil] at hll
      have HR := Lib.hid hr; clear hr
      have HA := Lib.hid hA; clear hA
      have HW := Lib.hid hW; clear hW
      clear hM
      have HB := Lib.hid hob
      have HX := Lib.hid hxb; clear hxb
      cases fl with
      | true =>
        go_wp2_with (first
          | (go_at_call 12; refine (cut_calls _ _ _ _ _ _ _ _ hspl rfl hxr HX.out (by omega)).mono ?_; rw [HR.out]; rintro e w1 ⟨v1, rfl, hown1, hspl1, hfr1⟩; obtain ⟨a1, c2, rfl, ha1, hb1⟩ := at_of_own hown1; dsimp only at *;
              have hown1' := hown.fr hfr1 (fun b' o' e x => by have := HB.out b' e; have := x.1; omega);
              have hfr1' := hfr.step hfr1 (fun i o hi x => by have := x.1; omega);
              clear hb1 hown1 hown hob hcell hxr)
          | (at_builtin; refine wpList_append_sl rfl (.tmp 28) (.tmp 29) 36 36 rfl 9 j0 (.string ⟨#[]⟩) 1 16 Try.underlying36 hj jz0 jz1 jz2 rfl (by decide) u5 _ _ rfl hown1' _ ls.length (ls.map sv) rfl (src_slice Try.underlying36 (by simp) ha1 (by simp [Value.oneCell'])) (by omega) (by omega) ?_; intro v2 w2 hown2 hfr2 hblk2;
              obtain ⟨a2, c3, hv2, ha2, _⟩ := hown2.at; subst hv2))
        go_ret2
        have h1 : wholeM ps.flatten = (acc ++ ls, 20) := by
          rw [HW.out, wholeM, cutM_app, HA.out]; simp
        rw [h1]
        exact ⟨a2, _, c3, rfl, by simp, by simpa using ha2, hfr1'.step hfr2 (fun i o hi x => by have := HB.out i x; omega)⟩
      | false =>
        go_wp2_with (first
          | (go_at_call 12; refine (cut_calls _ _ _ _ _ _ _ _ hspl rfl hxr HX.out (by omega)).mono ?_; rw [HR.out]; rintro e w1 ⟨v1, rfl, hown1, hspl1, hfr1⟩; obtain ⟨a1, c2, rfl, ha1, hb1⟩ := at_of_own hown1; dsimp only at *;
              have hown1' := hown.fr hfr1 (fun b' o' e x => by have := HB.out b' e; have := x.1; omega);
              have hfr1' := hfr.step hfr1 (fun i o hi x => by have := x.1; omega);
              clear hb1 hown1 hown hob hcell hxr)
          | (at_builtin; refine wpList_append_sl rfl (.tmp 28) (.tmp 29) 36 36 rfl 9 j0 (.string ⟨#[]⟩) 1 16 Try.underlying36 hj jz0 jz1 jz2 rfl (by decide) u5 _ _ rfl hown1' _ ls.length (ls.map sv) rfl (src_slice Try.underlying36 (by simp) ha1 (by simp [Value.oneCell'])) (by omega) (by omega) ?_; intro v2 w2 hown2 hfr2 hblk2))
        go_roundw
        have hlt0 := hspl1.lt
        have hbo : ∀ g, v2.ownBlock = some g → w.heap.size < g := by
          intro g e
          rcases hblk2 with h | h
          · exact HB.out g (by rw [← h]; exact e)
          · rw [h] at e; injection e with e; omega
        case rel => exact ⟨k + 1, acc ++ ls, rs, by omega, by go_num, by simpa using hown2, hbo, hspl1.fr hfr2 (fun i _ x => by have := HB.out _ x; omega), hfr1'.step hfr2 (fun i o hi x => by have := HB.out i x; omega), HA.out⟩
        case measure => simp [intOf]; omega
    · obtain rfl : k = ps.length := by omega
      rw [List.take_length] at hM
      have hW : wholeM ps.flatten = (if cs = [] then acc else acc ++ [cs], 0) := by rw [wholeM, hM]; simp
      have hal : acc.length ≤ 100000 := by
        have h1 := cutM_len ps.flatten [] []
        rw [hM] at h1
        simp only [List.length_nil] at h1
        omega
      have HB := Lib.hid hob; clear hob hM
      have HW := Lib.hid hW; clear hW
      cases cs with
      | nil =>
        go_wp2_with (go_at_call 10; refine (rest_calls _ _ _ _ _ hspl).mono ?_; rintro e w1 ⟨rfl, hspl1, hfr1⟩; obtain ⟨a2, c3, hv2, ha2, _⟩ := hown.at; subst hv2)
        go_ret2
        rw [HW.out]
        have hfr2 := ha2.fr hfr1 (fun g off e hg i _ x => by have := HB.out g (by rw [e]; rfl); have := x.1; omega)
        exact ⟨a2, _, c3, rfl, by simp, by simpa using hfr2, hfr.step hfr1 (fun i o hi x => by have := x.1; omega)⟩
      | cons c0 cs =>
        go_wp2_with (first
          | (go_at_call 10; refine (rest_calls _ _ _ _ _ hspl).mono ?_; rintro e w1 ⟨rfl, hspl1, hfr1⟩;
              have hown1 := hown.fr hfr1 (fun b' o' e x => by have := HB.out b' e; have := x.1; omega);
              have hfr1' := hfr.step hfr1 (fun i o hi x => by have := x.1; omega);
              clear hown)
          | (at_builtin; refine wpList_append_sl rfl (.tmp 41) (.tmp 43) 36 36 rfl 9 j0 (.string ⟨#[]⟩) 1 16 Try.underlying36 hj jz0 jz1 jz2 rfl (by decide) u5 _ _ rfl (hown1.fr ((Fr.refl No _).alloc _) (fun _ _ _ x => x)) _ 1 [sv (c0 :: cs)] rfl (src_slice Try.underlying36 (by simp) (fun _ => ⟨w1.heap.size, 0, rfl, row_at w1 #[sv (c0 :: cs)] _ rfl _ rfl 9 (0, 0)⟩) (by simp [Value.oneCell'])) (by omega) (by omega) ?_; intro v2 w2 hown2 hfr2 hblk2;
              obtain ⟨a2, c3, hv2, ha2, _⟩ := hown2.at; subst hv2))
        go_ret2
        rw [HW.out, if_neg (by simp)]
        exact ⟨a2, _, c3, rfl, by simp, by simpa using ha2, (hfr1'.alloc _).step hfr2 (fun i o hi x => by have := HB.out i x; omega)⟩
end Go.Proofs.Ytmjmaffbnejccaa
