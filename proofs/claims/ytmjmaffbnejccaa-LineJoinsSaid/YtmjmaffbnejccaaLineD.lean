/- LineJoins: the walk. -/
import Derived.Test.YtmjmaffbnejccaaLineA
import Derived.Test.YtmjmaffbnejccaaLift
namespace Go.Proofs.Ytmjmaffbnejccaa
open Go.RowKit

theorem joinM_bound (n m : Nat) : ∀ l : List (List UInt8), l.length ≤ n → (∀ x ∈ l, x.length ≤ m) → (joinM l).length ≤ n * (m + 1) := by
  intro l
  induction l generalizing n with
  | nil => simp [joinM]
  | cons x l ih =>
    intro h1 h2
    cases n with
    | zero => simp at h1
    | succ n =>
      have e : joinM (x :: l) = x ++ [10] ++ joinM l := by simp [joinM]
      have := ih n (by simpa using h1) (fun y hy => h2 y (by simp [hy]))
      have hx := h2 x (by simp)
      rw [e, Nat.succ_mul]; simp; omega

set_option maxHeartbeats 2000000 in
set_option maxRecDepth 100000 in
theorem walk_lineJoins (w : World) {v : Value} (ls : List (List UInt8)) (hv : IsS w v ls) : Calls Try.prog 4 #[v] w (TruePost w) := by
  obtain ⟨a, cap, rfl, hcap, hmax, hat, hsz⟩ := hv
  unfold maxLen at hmax
  have HSZ := Lib.hid hsz; clear hsz
  by_cases hlong : 1000 < ls.length
  · have hl1 : decide ((1000 : Int) < ls.length) = true := decide_eq_true (by omega)
    go_enter Try.func4, Try.ntmps4
    go_wp2_with (go_at_call 9; refine (awake_any _).mono ?_; rintro e w1 ⟨rfl, hfr⟩)
    go_ret
    exact ⟨rfl, hfr⟩
  have hl1 : decide ((1000 : Int) < ls.length) = false := decide_eq_false (by omega)
  have hl2 : (ls.length : Int) ≤ 1000 := by omega
  go_enter Try.func4, Try.ntmps4
  go_wp2
  go_loop [3] (fun i => ∃ k : Nat, k ≤ ls.length ∧ i = .int .i64 k ∧ ∀ x ∈ ls.take k, x.length ≤ 4096) (fun i => ls.length - (intOf i).toNat)
  case atStart => exact ⟨0, Nat.zero_le _, rfl, by simp⟩
  case round =>
    obtain ⟨k, hk, rfl, hall⟩ := hrel
    have HA := Lib.hid hall; clear hall
    by_cases hlt : k < ls.length
    · obtain ⟨g, off, rfl, hrow⟩ := hat (by simp; omega)
      have hcell := hrow.get k (sv ls[k]) (by simp [hlt])
      have ht : ls.take (k + 1) = ls.take k ++ [ls[k]] := List.take_succ_eq_append_getElem hlt
      have hszk := HSZ.out ls[k] (by simp)
      unfold maxLen at hszk
      have hs := size_mk ls[k]
      generalize ls[k] = x at *
      have HT := Lib.hid ht; clear ht
      by_cases hx : 4096 < x.length
      · have hx1 : decide ((4096 : Int) < x.length) = true := decide_eq_true (by omega)
        go_wp2_with (go_at_call 9; refine (awake_any _).mono ?_; rintro e w1 ⟨rfl, hfr⟩)
        go_ret
        exact ⟨rfl, hfr⟩
      · have hx1 : decide ((4096 : Int) < x.length) = false := decide_eq_false (by omega)
        go_wp2
        go_round
        case rel =>
          refine ⟨k + 1, by omega, by go_num, ?_⟩
          rw [HT.out]
          intro y hy
          rcases List.mem_append.1 hy with h | h
          · exact HA.out y h
          · simp at h; subst h; omega
        case measure => simp [intOf]; omega
    · obtain rfl : k = ls.length := by omega
      have hall := HA.out
      rw [List.take_length] at hall
      have hj : (joinM ls).length ≤ 10000000 := by
        have := joinM_bound 1000 4096 ls (by omega) hall
        omega
      clear hall
      go_wp2_with fail
      have KA : Fr No w w.drew := (Fr.refl No w).drew
      go_region_law (first
        | (go_simp; go_at_call 17; refine (join_any _ _ _ _ (hat.fr (KA.trans hfr2) (fun _ _ _ _ _ _ x => x)) (by omega) (by omega)).mono ?_; rintro e w1 ⟨v1, rfl, hown1, hfr1⟩; obtain ⟨a1, c1, hv1, ha1, _⟩ := at_of_own hown1; subst hv1; have hcv1 := conv_at (P := Try.prog) (cap := c1) ha1 (src := 31) (dst := 9) Try.underlying31 Try.underlying5 Try.underlying9; have hcw2 := conv_at (P := Try.prog) (cap := c2) (ha2.fr hfr1 (fun _ _ _ _ _ _ x => x)) (src := 31) (dst := 9) Try.underlying31 Try.underlying5 Try.underlying9)
        | (go_simp; go_at_call 18; refine (rjoin_any _ _ _ _ (hat.fr (KA.trans hfr1) (fun _ _ _ _ _ _ x => x)) (by omega) (by omega)).mono ?_; rintro e w2 ⟨v2, rfl, hown2, hfr2⟩; obtain ⟨a2, c2, hv2, ha2, _⟩ := at_of_own hown2; subst hv2; have hcv2 := conv_at (P := Try.prog) (cap := c2) ha2 (src := 31) (dst := 9) Try.underlying31 Try.underlying5 Try.underlying9; have hcw1 := conv_at (P := Try.prog) (cap := c1) (ha1.fr hfr2 (fun _ _ _ _ _ _ x => x)) (src := 31) (dst := 9) Try.underlying31 Try.underlying5 Try.underlying9)
        | (go_simp; go_at_call 17; refine (join_any _ _ _ _ (hat.fr KA (fun _ _ _ _ _ _ x => x)) (by omega) (by omega)).mono ?_; rintro e w1 ⟨v1, rfl, hown1, hfr1⟩; obtain ⟨a1, c1, hv1, ha1, _⟩ := at_of_own hown1; subst hv1; have hcv1 := conv_at (P := Try.prog) (cap := c1) ha1 (src := 31) (dst := 9) Try.underlying31 Try.underlying5 Try.underlying9)
        | (go_simp; go_at_call 18; refine (rjoin_any _ _ _ _ (hat.fr KA (fun _ _ _ _ _ _ x => x)) (by omega) (by omega)).mono ?_; rintro e w2 ⟨v2, rfl, hown2, hfr2⟩; obtain ⟨a2, c2, hv2, ha2, _⟩ := at_of_own hown2; subst hv2; have hcv2 := conv_at (P := Try.prog) (cap := c2) ha2 (src := 31) (dst := 9) Try.underlying31 Try.underlying5 Try.underlying9)
        | (go_simp; go_at_call 9; refine (awake_any _).mono ?_; rintro e w3 ⟨rfl, hfr3⟩))
      all_goals
        go_wp2
        go_ret
        refine ⟨rfl, ?_⟩
        first
          | exact ((KA.trans hfr1).trans hfr2).trans hfr3
          | exact ((KA.trans hfr2).trans hfr1).trans hfr3
end Go.Proofs.Ytmjmaffbnejccaa
