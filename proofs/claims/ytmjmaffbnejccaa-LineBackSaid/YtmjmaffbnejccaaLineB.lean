/- LineBack: the walk. -/
import Derived.Test.YtmjmaffbnejccaaLineC
import Derived.Test.YtmjmaffbnejccaaLift
namespace Go.Proofs.Ytmjmaffbnejccaa
open Go.RowKit

theorem cutM_ok : ∀ (b cs : List UInt8) (acc : List (List UInt8)), cs.length ≤ 64 → 10 ∉ cs → (∀ l ∈ acc, l.length ≤ 64 ∧ 10 ∉ l) →
    (∀ l ∈ (cutM b cs acc).1, l.length ≤ 64 ∧ 10 ∉ l) ∧ (cutM b cs acc).2.1.length ≤ 64 ∧ 10 ∉ (cutM b cs acc).2.1
  | [], cs, acc, h1, h2, h3 => ⟨h3, h1, h2⟩
  | x :: xs, cs, acc, h1, h2, h3 => by
    rw [cutM]
    split
    · exact cutM_ok xs [] (acc ++ [cs]) (by simp) (by simp) (by
        intro l hl
        rcases List.mem_append.1 hl with h | h
        · exact h3 l h
        · simp at h; subst h; exact ⟨h1, h2⟩)
    · split
      · exact ⟨h3, by simp, by simp⟩
      · rename_i hx hl
        exact cutM_ok xs (cs ++ [x]) acc (by simp; omega) (by simp; exact ⟨h2, fun e => hx e.symm⟩) h3
theorem joinM_app (a b : List (List UInt8)) : joinM (a ++ b) = joinM a ++ joinM b := by simp [joinM]
/-- What has been cut is what came. -/
theorem cutM_back : ∀ (b cs : List UInt8) (acc : List (List UInt8)),
    ((cutM b cs acc).2.2 = false → joinM (cutM b cs acc).1 ++ (cutM b cs acc).2.1 = joinM acc ++ cs ++ b) ∧
    ((cutM b cs acc).2.2 = true → ∃ t, joinM (cutM b cs acc).1 ++ t = joinM acc ++ cs ++ b ∧ 64 < t.length)
  | [], cs, acc => by simp [cutM]
  | x :: xs, cs, acc => by
    rw [cutM]
    split
    · rename_i hx
      have h := cutM_back xs [] (acc ++ [cs])
      have e : joinM (acc ++ [cs]) ++ [] ++ xs = joinM acc ++ cs ++ x :: xs := by rw [joinM_app, hx]; simp [joinM]
      rw [e] at h
      exact h
    · split
      · rename_i hl
        refine ⟨by simp, fun _ => ⟨cs ++ x :: xs, by simp, by simp; omega⟩⟩
      · have h := cutM_back xs (cs ++ [x]) acc
        have e : joinM acc ++ (cs ++ [x]) ++ xs = joinM acc ++ cs ++ x :: xs := by simp
        rw [e] at h
        exact h
theorem joinM_last (l : List (List UInt8)) (h : l ≠ []) : (joinM l).getLast? = some 10 := by
  rw [← List.dropLast_concat_getLast h, joinM_app]
  simp [joinM]

theorem whole_lines (b : List UInt8) : ∀ l ∈ (wholeM b).1, l.length ≤ 64 ∧ 10 ∉ l := by
  have h := cutM_ok b [] [] (by simp) (by simp) (by simp)
  unfold wholeM
  split
  · exact h.1
  · dsimp only
    split
    · exact h.1
    · intro l hl
      rcases List.mem_append.1 hl with h' | h'
      · exact h.1 l h'
      · simp at h'; subst h'; exact h.2
theorem whole_long (b : List UInt8) (h : (wholeM b).2 ≠ 0) : (wholeM b).2 = 20 ∧ (joinM (wholeM b).1).length + 64 < b.length ∧ b.take (joinM (wholeM b).1).length = joinM (wholeM b).1 := by
  unfold wholeM at h ⊢
  by_cases hc : (cutM b [] []).2.2 = true
  · rw [if_pos hc] at h ⊢
    obtain ⟨t, h1, h2⟩ := (cutM_back b [] []).2 hc
    have h3 : joinM (cutM b [] []).1 ++ t = b := by rw [h1]; simp [joinM]
    refine ⟨rfl, ?_, ?_⟩
    · have := congrArg List.length h3; rw [List.length_append] at this; dsimp only; omega
    · have := List.take_left (l₁ := joinM (cutM b [] []).1) (l₂ := t)
      rwa [h3] at this
  · rw [if_neg hc] at h; exact absurd rfl h
theorem whole_short (b : List UInt8) (h : (wholeM b).2 = 0) : joinM (wholeM b).1 = if b.getLast? = none ∨ b.getLast? = some 10 then b else b ++ [10] := by
  unfold wholeM at h ⊢
  by_cases hc : (cutM b [] []).2.2 = true
  · rw [if_pos hc] at h; exact absurd h (by simp)
  · rw [if_neg hc] at h ⊢
    have hb := (cutM_back b [] []).1 (by simpa using hc)
    have hok := (cutM_ok b [] [] (by simp) (by simp) (by simp)).2.2
    have h3 : joinM (cutM b [] []).1 ++ (cutM b [] []).2.1 = b := by rw [hb]; simp [joinM]
    generalize cutM b [] [] = r at *
    obtain ⟨ls, rs, fl⟩ := r
    dsimp only at *
    by_cases hr : rs = []
    · subst hr
      rw [if_pos rfl]
      rw [List.append_nil] at h3
      subst h3
      by_cases hl : ls = []
      · subst hl; simp [joinM]
      · rw [if_pos (.inr (joinM_last ls hl))]
    · rw [if_neg hr, joinM_app, ← h3]
      have hlast : (joinM ls ++ rs).getLast? = rs.getLast? := by rw [List.getLast?_append]; cases hq : rs.getLast? with
        | none => simp at hq; exact absurd hq hr
        | some x => simp
      rw [hlast, if_neg]
      · simp [joinM]
      · rintro (h | h)
        · simp at h; exact hr h
        · exact hok (List.mem_of_getLast? h)

theorem joinM_ge : ∀ l : List (List UInt8), l.length ≤ (joinM l).length
  | [] => by simp [joinM]
  | x :: l => by
    have := joinM_ge l
    have e : joinM (x :: l) = x ++ [10] ++ joinM l := by simp [joinM]
    rw [e]; simp; omega
theorem whole_jlen (b : List UInt8) : (joinM (wholeM b).1).length ≤ b.length + 1 := by
  by_cases h : (wholeM b).2 = 0
  · rw [whole_short b h]; split <;> simp
  · have := (whole_long b h).2.1; omega

set_option maxHeartbeats 1000000 in
set_option maxRecDepth 100000 in
theorem walk_lineBack (w : World) {v : Value} (b : List UInt8) (hv : IsB w v b) : Calls Try.prog 7 #[v] w (TruePost w) := by
  obtain ⟨a, cap, rfl, hcap, hmax, hat, _⟩ := hv
  unfold maxLen at hmax
  by_cases hlong : 8192 < b.length
  · have hl1 : (8192 : Int) < b.length := by omega
    go_enter Try.func7, Try.ntmps7
    go_wp2_with (go_at_call 9; refine (awake_any _).mono ?_; rintro e w1 ⟨rfl, hfr⟩)
    go_ret
    exact ⟨rfl, hfr⟩
  have hl1 : (b.length : Int) ≤ 8192 := by omega
  have hls := whole_lines b
  have hjl : (joinM (wholeM b).1).length ≤ 9000 := by have := whole_jlen b; omega
  have hlen : (wholeM b).1.length ≤ 9000 := by have := joinM_ge (wholeM b).1; omega
  have hlg := whole_long b
  have hsh := whole_short b
  generalize hr : wholeM b = r at *
  obtain ⟨ls, code⟩ := r
  have HR := Lib.hid hr; clear hr
  have HL := Lib.hid hls; clear hls
  have HG := Lib.hid hlg; clear hlg
  have HS := Lib.hid hsh; clear hsh
  dsimp only at *
  go_enter Try.func7, Try.ntmps7
  go_wp2_with (go_at_call 19; refine (all_any _ _ _ [b] _ rfl (fun _ => ⟨w.heap.size, 0, rfl, fun i hi => by
      obtain rfl : i = 0 := by simpa using hi
      exact ⟨a, cap, (row_at w #[.slice a b.length cap] _ rfl _ rfl 31 (0, 0)).get 0 _ rfl, hat.fr ((Fr.refl No w).alloc _) (fun _ _ _ _ _ _ x => x)⟩⟩) (by simp; omega) (by simp)).mono ?_; rw [show ([b] : List (List UInt8)).flatten = b from by simp, HR.out]; rintro e w1 ⟨a1, n1, c1, rfl, hn1, ha1, hfr1⟩; dsimp only at *; subst hn1)
  have hlenI : (ls.length : Int) ≤ 9000 := by omega
  go_loop [5] (fun i => ∃ k : Nat, k ≤ ls.length ∧ i = .int .i64 k) (fun i => ls.length - (intOf i).toNat)
  case atStart => exact ⟨0, Nat.zero_le _, rfl⟩
  case round =>
    obtain ⟨k, hk, rfl⟩ := hrel
    by_cases hlt : k < ls.length
    · obtain ⟨g, off, rfl, hrow⟩ := ha1 (by simp; omega)
      have hcell := hrow.get k (sv ls[k]) (by simp [hlt])
      obtain ⟨hl64, hno⟩ := HL.out ls[k] (by simp)
      have hki : (k : Int) < ls.length := by omega
      generalize ls[k] = x at *
      have hsz := size_mk x
      have hxl : (x.length : Int) ≤ 64 := by omega
      have HN := Lib.hid hno; clear hno
      go_wp2
      go_loop [6] (fun i => ∃ j : Nat, j ≤ x.length ∧ i = .int .i64 j) (fun i => x.length - (intOf i).toNat)
      case atStart => exact ⟨0, Nat.zero_le _, rfl⟩
      case round =>
        obtain ⟨j, hj, rfl⟩ := hrel
        by_cases hjx : j < x.length
        · have hjs : j < (⟨x.toArray⟩ : ByteArray).size := by rw [hsz]; exact hjx
          have hne : ((((⟨x.toArray⟩ : ByteArray)[j]'hjs).toNat : Int) == 10) = false := by
            simp only [beq_eq_false_iff_ne]
            intro e
            apply HN.out
            have e2 : (⟨x.toArray⟩ : ByteArray)[j]'hjs = x[j] := rfl
            rw [e2] at e
            have : x[j] = 10 := UInt8.toNat.inj (by rw [show ((10 : UInt8).toNat) = 10 from rfl]; omega)
            rw [← this]; exact List.getElem_mem _
          go_wp2
          go_round
          case rel => exact ⟨j + 1, by omega, by go_num⟩
          case measure => simp [intOf]; omega
        · obtain rfl : j = x.length := by omega
          go_wp2
          go_round
          case rel => exact ⟨k + 1, by omega, by go_num⟩
          case measure => simp [intOf]; omega
    · obtain rfl : k = ls.length := by omega
      by_cases hc : code = 0
      · subst hc
        have hj := HS.out rfl
        have HJ := Lib.hid hj; clear hj
        have hat1 := (hat.fr ((Fr.refl No w).alloc (.cells #[.slice a b.length cap] 31)) (fun _ _ _ _ _ _ x => x)).fr hfr1 (fun _ _ _ _ _ _ x => x)
        rcases List.eq_nil_or_concat b with hb | ⟨pre, x, hb⟩
        · subst hb
          simp only [List.getLast?_nil, true_or, if_true] at HJ
          go_wp2_with (first
            | (go_at_call 17; refine (join_any _ _ _ _ ha1 (by omega) (by omega)).mono ?_; rw [HJ.out]; rintro e w2 ⟨v2, rfl, hown2, hfr2⟩; obtain ⟨a2, c2, hv2, ha2, _⟩ := at_of_own hown2; subst hv2;
                have hcv := conv_at (P := Try.prog) (cap := c2) ha2 (src := 31) (dst := 9) Try.underlying31 Try.underlying5 Try.underlying9;
                have hcb := conv_at (P := Try.prog) (cap := cap) (hat1.fr hfr2 (fun _ _ _ _ _ _ x => x)) (src := 31) (dst := 9) Try.underlying31 Try.underlying5 Try.underlying9; simp only [List.length_nil] at hcv hcb ⊢)
            | (go_at_call 9; refine (awake_any _).mono ?_; rintro e w3 ⟨rfl, hfr3⟩))
          go_ret
          exact ⟨rfl, (((((Fr.refl No w).alloc _).trans hfr1).trans hfr2).trans hfr3)⟩
        · have hbl : b.length = pre.length + 1 := by rw [hb]; simp
          have hgl : b.getLast? = some x := by rw [hb]; simp
          have hpos : (0 : Int) < b.length := by omega
          obtain ⟨g0, o0, rfl, hr0⟩ := hat1 (by simp; omega)
          have hlast : b[pre.length]? = some x := by rw [hb]; simp
          have hcl : w1.cell? ⟨g0, o0 + (b.length - 1), none⟩ = some (.int .u8 x.toNat) := by
            rw [show b.length - 1 = pre.length from by omega]
            exact hr0.get pre.length (bv x) (by rw [List.getElem?_map, hlast]; rfl)
          clear hlast
          have HJ2 : Hid (joinM ls = if x = 10 then b else b ++ [10]) := Lib.hid (by rw [HJ.out, hgl]; simp)
          clear hgl hbl
          clear hb
          by_cases hx : x = 10
          · have hx1 : ((x.toNat : Int) != 10) = false := by subst hx; rfl
            have HJ3 : Hid (joinM ls = b) := Lib.hid (by rw [HJ2.out, if_pos hx])
            clear HJ2 HJ hx
            go_wp2_with (first
            | (go_at_call 17; refine (join_any _ _ _ _ ha1 (by omega) (by omega)).mono ?_; rw [HJ3.out]; rintro e w2 ⟨v2, rfl, hown2, hfr2⟩; obtain ⟨a2, c2, hv2, ha2, _⟩ := at_of_own hown2; subst hv2;
                have hcv := conv_at (P := Try.prog) (cap := c2) ha2 (src := 31) (dst := 9) Try.underlying31 Try.underlying5 Try.underlying9;
                have hcb := conv_at (P := Try.prog) (cap := cap) (hat1.fr hfr2 (fun _ _ _ _ _ _ x => x)) (src := 31) (dst := 9) Try.underlying31 Try.underlying5 Try.underlying9; have hcl2 : w2.cell? ⟨g0, o0 + (b.length - 1), none⟩ = some (.int .u8 x.toNat) := (by rw [hfr2.cell _ _ (World.block_lt_of_cell? w1 _ hcl) (fun x => x)]; exact hcl))
            | (go_at_call 9; refine (awake_any _).mono ?_; rintro e w3 ⟨rfl, hfr3⟩))
            go_ret
            exact ⟨rfl, (((((Fr.refl No w).alloc _).trans hfr1).trans hfr2).trans hfr3)⟩
          · have hx1 : ((x.toNat : Int) != 10) = true := by
              simp; intro e; apply hx; exact UInt8.toNat.inj (by rw [show ((10 : UInt8).toNat) = 10 from rfl]; omega)
            have HJ3 : Hid (joinM ls = b ++ [10]) := Lib.hid (by rw [HJ2.out, if_neg hx])
            have hx2 : ((⟨b.toArray⟩ : ByteArray) ++ ⟨#[10]⟩) = ⟨(b ++ [10]).toArray⟩ := by
              apply ByteArray.ext
              simp
            clear HJ2 HJ hx
            go_wp2_with (first
            | (go_at_call 17; refine (join_any _ _ _ _ ha1 (by omega) (by omega)).mono ?_; rw [HJ3.out]; rintro e w2 ⟨v2, rfl, hown2, hfr2⟩; obtain ⟨a2, c2, hv2, ha2, _⟩ := at_of_own hown2; subst hv2;
                have hcv := conv_at (P := Try.prog) (cap := c2) ha2 (src := 31) (dst := 9) Try.underlying31 Try.underlying5 Try.underlying9;
                have hcb := conv_at (P := Try.prog) (cap := cap) (hat1.fr hfr2 (fun _ _ _ _ _ _ x => x)) (src := 31) (dst := 9) Try.underlying31 Try.underlying5 Try.underlying9; rw [List.length_append, List.length_cons, List.length_nil] at hcv; have hcl2 : w2.cell? ⟨g0, o0 + (b.length - 1), none⟩ = some (.int .u8 x.toNat) := (by rw [hfr2.cell _ _ (World.block_lt_of_cell? w1 _ hcl) (fun x => x)]; exact hcl))
            | (go_at_call 9; refine (awake_any _).mono ?_; rintro e w3 ⟨rfl, hfr3⟩))
            go_ret
            exact ⟨rfl, (((((Fr.refl No w).alloc _).trans hfr1).trans hfr2).trans hfr3)⟩
      · obtain ⟨hc20, hg1, hg2⟩ := HG.out hc
        subst hc20
        clear hc
        have hg3 : ((joinM ls).length : Int) + 64 < b.length := by omega
        have hg4 : ((joinM ls).length : Int) ≤ cap := by omega
        have hat1 := (hat.fr ((Fr.refl No w).alloc (.cells #[.slice a b.length cap] 31)) (fun _ _ _ _ _ _ x => x)).fr hfr1 (fun _ _ _ _ _ _ x => x)
        have HT := Lib.hid hg2; clear hg2 hg1
        go_wp2_with (first
          | (go_at_call 17; refine (join_any _ _ _ _ ha1 (by omega) (by omega)).mono ?_; rintro e w2 ⟨v2, rfl, hown2, hfr2⟩; obtain ⟨a2, c2, hv2, ha2, _⟩ := at_of_own hown2; subst hv2;
              have hcv := conv_at (P := Try.prog) (cap := c2) ha2 (src := 31) (dst := 9) Try.underlying31 Try.underlying5 Try.underlying9;
              have hcb : (convert 31 9 (.slice a (joinM ls).length cap)).run Try.prog w2 = .ok (.string ⟨(joinM ls).toArray⟩) w2 := (by
                have h3 := (hat1.fr hfr2 (fun _ _ _ _ _ _ x => x)).take (joinM ls).length
                rw [← List.map_take, HT.out] at h3
                exact conv_at (P := Try.prog) (cap := cap) h3 (src := 31) (dst := 9) Try.underlying31 Try.underlying5 Try.underlying9))
          | (go_at_call 9; refine (awake_any _).mono ?_; rintro e w3 ⟨rfl, hfr3⟩))
        go_ret
        exact ⟨rfl, (((((Fr.refl No w).alloc _).trans hfr1).trans hfr2).trans hfr3)⟩
end Go.Proofs.Ytmjmaffbnejccaa
