/- Whether two are the same; a copy. -/
import Derived.Test.YtljldkknopmfhaaParV
import Derived.Test.YtljldkknopmfhaaBytes
namespace Go.Proofs.Ytljldkknopmfhaa
open Go.RowKit

theorem at_no {w W : World} {a : Option Addr} {vs : List Value} (h : At w a vs) (f : Fr No w W) : At W a vs := h.fr f (fun _ _ _ _ _ _ x => x)
def eqB (A A' : List UInt8) : Bool := decide (A = A')
theorem ne_at : ∀ (A A' : List UInt8), A.length = A'.length → A ≠ A' → ∃ k, k < A.length ∧ A.getD k 0 ≠ A'.getD k 0
  | [], [], _, h => absurd rfl h
  | [], _ :: _, h, _ => by simp at h
  | _ :: _, [], h, _ => by simp at h
  | x :: A, y :: A', h, hn => by
    by_cases hxy : x = y
    · subst hxy
      obtain ⟨k, hk, hne⟩ := ne_at A A' (by simpa using h) (by intro e; exact hn (by rw [e]))
      exact ⟨k + 1, by simpa using hk, by simpa using hne⟩
    · exact ⟨0, by simp, by simpa using hxy⟩
set_option maxHeartbeats 1000000 in
set_option maxRecDepth 100000 in
theorem equal_any (a a' : Option Addr) (c c' : Nat) (A A' : List UInt8) (w : World) (ha : At w a (A.map bv)) (ha' : At w a' (A'.map bv)) (hl : A.length ≤ 100000000) (hl' : A'.length ≤ 100000000) :
    Calls Try.prog 62 #[.slice a A.length c, .slice a' A'.length c'] w (DPost w (eqB A A')) := by
  by_cases h0 : A.length = A'.length
  · have hn : ((A.length : Int) != (A'.length : Int)) = false := by simp [h0]
    have hn2 : (A.length != A'.length) = false := by simp [h0]
    have HL := Lib.hid h0; clear h0
    have hli : (A.length : Int) ≤ 100000000 := by omega
    go_enter Try.func62, Try.ntmps62
    go_wp2
    go_loopw [13] (fun i wr => ∃ k : Nat, k ≤ A.length ∧ i = .int .i64 k ∧ Hid (∀ j, j < k → A.getD j 0 = A'.getD j 0) ∧ ∃ q, wr = w.drewN q) (fun i _ => A.length - (intOf i).toNat)
    case atStart => exact ⟨0, Nat.zero_le _, rfl, Lib.hid (fun j hj => absurd hj (Nat.not_lt_zero _)), 0, rfl⟩
    case round =>
      obtain ⟨k, hk, rfl, HK, q, rfl⟩ := hrel
      by_cases hlt : k < A.length
      · have hlt' : k < A'.length := by have := HL.out; omega
        obtain ⟨g, off, rfl, hrow⟩ := ha (by simp; omega)
        obtain ⟨g', off', rfl, hrow'⟩ := ha' (by simp; omega)
        have c1 : w.cell? ⟨g, off + k, none⟩ = some (.int .u8 (A.getD k 0).toNat) := hrow.get k _ (by simp [List.getD_eq_getElem?_getD, hlt, bv])
        have c2 : w.cell? ⟨g', off' + k, none⟩ = some (.int .u8 (A'.getD k 0).toNat) := hrow'.get k _ (by simp [List.getD_eq_getElem?_getD, hlt', bv])
        have hki : (k : Int) < A.length := by omega
        have hki' : (k : Int) < A'.length := by omega
        have hx0 : A.getD k 0 ≠ A'.getD k 0 → eqB A A' = false := by
          intro e; unfold eqB; simp only [decide_eq_false_iff_not]; intro e2; exact e (by rw [e2])
        have hstep : A.getD k 0 = A'.getD k 0 → ∀ j, j < k + 1 → A.getD j 0 = A'.getD j 0 := by
          intro e j hj
          by_cases hjk : j = k
          · subst hjk; exact e
          · exact HK.out j (by omega)
        have HX0 := Lib.hid hx0; clear hx0
        have HS := Lib.hid hstep; clear hstep
        generalize A.getD k 0 = x at *
        generalize A'.getD k 0 = y at *
        by_cases hxy : x = y
        · subst hxy
          go_wp2_with fail
          go_quiet (fail)
          go_wp2
          go_roundw
          case rel => exact ⟨k + 1, by omega, by go_num, Lib.hid (HS.out trivial), q + nq, by simp⟩
          case measure => simp [intOf]; omega
        · have hx1 : ((x.toNat : Int) != (y.toNat : Int)) = true := by
            simp only [bne_iff_ne, ne_eq]; intro e; exact hxy (UInt8.toNat.inj (by omega))
          have hx2 : (x.toNat != y.toNat) = true := by
            simp only [bne_iff_ne, ne_eq]; intro e; exact hxy (UInt8.toNat.inj e)
          have E1 := Lib.hid (HX0.out hxy)
          have HXY := Lib.hid hxy; clear hxy
          go_wp2_with fail
          go_quiet (fail)
          go_wp2
          go_ret
          rw [E1.out]
          exact ⟨rfl, q + nq, by simp⟩
      · obtain rfl : k = A.length := by omega
        have e1 : eqB A A' = true := by
          unfold eqB
          simp only [decide_eq_true_eq]
          refine Classical.byContradiction fun hne => ?_
          obtain ⟨j, hj, hjn⟩ := ne_at A A' HL.out hne
          exact hjn (HK.out j hj)
        have E1 := Lib.hid e1; clear e1
        go_wp2
        go_ret
        rw [E1.out]
        exact ⟨rfl, q, rfl⟩
  · have hn : ((A.length : Int) != (A'.length : Int)) = true := by simp only [bne_iff_ne, ne_eq]; omega
    have hn2 : (A.length != A'.length) = true := by simpa using h0
    have e1 : eqB A A' = false := by unfold eqB; simp only [decide_eq_false_iff_not]; intro e; exact h0 (by rw [e])
    rw [e1]
    clear h0 e1
    go_enter Try.func62, Try.ntmps62
    go_wp2
    go_ret
    exact ⟨rfl, 0, rfl⟩

def sameB (k n k' n' : Int) (A B A' B' : List UInt8) : Bool := decide (k = k' ∧ n = n' ∧ A = A' ∧ B = B')
set_option maxHeartbeats 1000000 in
set_option maxRecDepth 100000 in
theorem psame_any (k n k' n' : Int) (aA aB aA' aB' : Option Addr) (A B A' B' : List UInt8) (cA cB cA' cB' : Nat) (w : World)
    (hA : At w aA (A.map bv)) (hB : At w aB (B.map bv)) (hA' : At w aA' (A'.map bv)) (hB' : At w aB' (B'.map bv)) (hl : A.length ≤ 100000000) (hl2 : B.length ≤ 100000000) (hl' : A'.length ≤ 100000000) (hl2' : B'.length ≤ 100000000) :
    Calls Try.prog 34 #[.agg #[.int .i64 k, .int .i64 n, .slice aA A.length cA, .slice aB B.length cB], .agg #[.int .i64 k', .int .i64 n', .slice aA' A'.length cA', .slice aB' B'.length cB']] w (RPost w (sameB k n k' n' A B A' B')) := by
  have HA := Lib.hid hA; have HB := Lib.hid hB; have HA' := Lib.hid hA'; have HB' := Lib.hid hB'
  clear hA hB hA' hB'
  by_cases h1 : k = k'
  · subst h1
    by_cases h2 : n = n'
    · subst h2
      by_cases h3 : A = A'
      · have e3 : eqB A A' = true := by simpa [eqB] using h3
        have E3 := Lib.hid e3
        by_cases h4 : B = B'
        · have e4 : eqB B B' = true := by simpa [eqB] using h4
          have E4 := Lib.hid e4
          have e0 : sameB k n k n A B A' B' = true := by simp [sameB, h3, h4]
          rw [e0]; clear e0 h3 h4 e3 e4
          go_enter Try.func34, Try.ntmps34
          go_wp2_with (first
            | (go_at_call_of 62 (Value.slice aA A.length cA); refine (equal_any aA aA' cA cA' A A' _ (at_no HA.out (((Fr.refl No w).alloc _).alloc _)) (at_no HA'.out (((Fr.refl No w).alloc _).alloc _)) hl hl').mono ?_; rw [E3.out]; rintro e1 w1 ⟨rfl, q1, rfl⟩)
            | (go_at_call 62; refine (equal_any aB aB' cB cB' B B' _ (at_no HB.out ((((Fr.refl No w).alloc _).alloc _).drewN _)) (at_no HB'.out ((((Fr.refl No w).alloc _).alloc _).drewN _)) hl2 hl2').mono ?_; rw [E4.out]; rintro e1 w1 ⟨rfl, q2, rfl⟩))
          go_ret
          exact ⟨rfl, (((Fr.refl _ _).alloc _).alloc _).drewN _⟩
        · have e4 : eqB B B' = false := by simpa [eqB] using h4
          have E4 := Lib.hid e4
          have e0 : sameB k n k n A B A' B' = false := by simp [sameB, h4]
          rw [e0]; clear e0 h3 h4 e3 e4
          go_enter Try.func34, Try.ntmps34
          go_wp2_with (first
            | (go_at_call_of 62 (Value.slice aA A.length cA); refine (equal_any aA aA' cA cA' A A' _ (at_no HA.out (((Fr.refl No w).alloc _).alloc _)) (at_no HA'.out (((Fr.refl No w).alloc _).alloc _)) hl hl').mono ?_; rw [E3.out]; rintro e1 w1 ⟨rfl, q1, rfl⟩)
            | (go_at_call 62; refine (equal_any aB aB' cB cB' B B' _ (at_no HB.out ((((Fr.refl No w).alloc _).alloc _).drewN _)) (at_no HB'.out ((((Fr.refl No w).alloc _).alloc _).drewN _)) hl2 hl2').mono ?_; rw [E4.out]; rintro e1 w1 ⟨rfl, q2, rfl⟩))
          go_ret
          exact ⟨rfl, (((Fr.refl _ _).alloc _).alloc _).drewN _⟩
      · have e3 : eqB A A' = false := by simpa [eqB] using h3
        have E3 := Lib.hid e3
        have E4 := E3
        have e0 : sameB k n k n A B A' B' = false := by simp [sameB, h3]
        rw [e0]; clear e0 h3 e3
        go_enter Try.func34, Try.ntmps34
        go_wp2_with (first
          | (go_at_call_of 62 (Value.slice aA A.length cA); refine (equal_any aA aA' cA cA' A A' _ (at_no HA.out (((Fr.refl No w).alloc _).alloc _)) (at_no HA'.out (((Fr.refl No w).alloc _).alloc _)) hl hl').mono ?_; rw [E3.out]; rintro e1 w1 ⟨rfl, q1, rfl⟩)
          | (go_at_call 62; refine (equal_any aB aB' cB cB' B B' _ (at_no HB.out ((((Fr.refl No w).alloc _).alloc _).drewN _)) (at_no HB'.out ((((Fr.refl No w).alloc _).alloc _).drewN _)) hl2 hl2').mono ?_; rw [E4.out]; rintro e1 w1 ⟨rfl, q2, rfl⟩))
        go_ret
        exact ⟨rfl, (((Fr.refl _ _).alloc _).alloc _).drewN _⟩
    · have h2b : (n == n') = false := by simpa using h2
      have e0 : sameB k n k n' A B A' B' = false := by simp [sameB, h2]
      rw [e0]; clear e0 h2
      go_enter Try.func34, Try.ntmps34
      go_wp2
      go_ret
      exact ⟨rfl, ((Fr.refl _ _).alloc _).alloc _⟩
  · have h1b : (k == k') = false := by simpa using h1
    have e0 : sameB k n k' n' A B A' B' = false := by simp [sameB, h1]
    rw [e0]; clear e0 h1
    go_enter Try.func34, Try.ntmps34
    go_wp2
    go_ret
    exact ⟨rfl, ((Fr.refl _ _).alloc _).alloc _⟩
set_option maxHeartbeats 1000000 in
set_option maxRecDepth 100000 in
theorem rsame_any (k n k' n' : Int) (aA aB aA' aB' : Option Addr) (A B A' B' : List UInt8) (cA cB cA' cB' : Nat) (w : World)
    (hA : At w aA (A.map bv)) (hB : At w aB (B.map bv)) (hA' : At w aA' (A'.map bv)) (hB' : At w aB' (B'.map bv)) (_hl : A.length ≤ 100000000) (_hl2 : B.length ≤ 100000000) (_hl' : A'.length ≤ 100000000) (_hl2' : B'.length ≤ 100000000) :
    Calls Try.prog 29 #[.agg #[.int .i64 k, .int .i64 n, .slice aA A.length cA, .slice aB B.length cB], .agg #[.int .i64 k', .int .i64 n', .slice aA' A'.length cA', .slice aB' B'.length cB']] w (RPost w (sameB k n k' n' A B A' B')) := by
  have hcv : ∀ (W : World) (a : Option Addr) (c : Nat) (l : List UInt8), At W a (l.map bv) → (convert 29 9 (.slice a l.length c)).run Try.prog W = .ok (.string ⟨l.toArray⟩) W := fun W a c l h => conv_at h Try.underlying29 Try.underlying5 Try.underlying9
  have HA := Lib.hid hA; have HB := Lib.hid hB; have HA' := Lib.hid hA'; have HB' := Lib.hid hB'
  clear hA hB hA' hB'
  by_cases h1 : k = k'
  · subst h1
    by_cases h2 : n = n'
    · subst h2
      have cv1 := hcv ((w.alloc (.cells #[.int .i64 k, .int .i64 n, .slice aA A.length cA, .slice aB B.length cB] 41)).alloc (.cells #[.int .i64 k, .int .i64 n, .slice aA' A'.length cA', .slice aB' B'.length cB'] 41)) aA cA A (at_no HA.out (((Fr.refl No w).alloc _).alloc _))
      have cv2 := hcv ((w.alloc (.cells #[.int .i64 k, .int .i64 n, .slice aA A.length cA, .slice aB B.length cB] 41)).alloc (.cells #[.int .i64 k, .int .i64 n, .slice aA' A'.length cA', .slice aB' B'.length cB'] 41)) aB cB B (at_no HB.out (((Fr.refl No w).alloc _).alloc _))
      have cv3 := hcv ((w.alloc (.cells #[.int .i64 k, .int .i64 n, .slice aA A.length cA, .slice aB B.length cB] 41)).alloc (.cells #[.int .i64 k, .int .i64 n, .slice aA' A'.length cA', .slice aB' B'.length cB'] 41)) aA' cA' A' (at_no HA'.out (((Fr.refl No w).alloc _).alloc _))
      have cv4 := hcv ((w.alloc (.cells #[.int .i64 k, .int .i64 n, .slice aA A.length cA, .slice aB B.length cB] 41)).alloc (.cells #[.int .i64 k, .int .i64 n, .slice aA' A'.length cA', .slice aB' B'.length cB'] 41)) aB' cB' B' (at_no HB'.out (((Fr.refl No w).alloc _).alloc _))
      clear hcv
      by_cases h3 : A = A'
      · have e3 : (A == A') = true := by simpa using h3
        by_cases h4 : B = B'
        · have e4 : (B == B') = true := by simpa using h4
          have e0 : sameB k n k n A B A' B' = true := by simp [sameB, h3, h4]
          rw [e0]; clear e0 h3 h4
          go_enter Try.func29, Try.ntmps29
          go_wp2
          go_ret
          exact ⟨rfl, ((Fr.refl _ _).alloc _).alloc _⟩
        · have e4 : (B == B') = false := by simpa using h4
          have e0 : sameB k n k n A B A' B' = false := by simp [sameB, h4]
          rw [e0]; clear e0 h3 h4
          go_enter Try.func29, Try.ntmps29
          go_wp2
          go_ret
          exact ⟨rfl, ((Fr.refl _ _).alloc _).alloc _⟩
      · have e3 : (A == A') = false := by simpa using h3
        have e0 : sameB k n k n A B A' B' = false := by simp [sameB, h3]
        rw [e0]; clear e0 h3
        go_enter Try.func29, Try.ntmps29
        go_wp2
        go_ret
        exact ⟨rfl, ((Fr.refl _ _).alloc _).alloc _⟩
    · have h2b : (n == n') = false := by simpa using h2
      have e0 : sameB k n k n' A B A' B' = false := by simp [sameB, h2]
      rw [e0]; clear e0 h2 hcv
      go_enter Try.func29, Try.ntmps29
      go_wp2
      go_ret
      exact ⟨rfl, ((Fr.refl _ _).alloc _).alloc _⟩
  · have h1b : (k == k') = false := by simpa using h1
    have e0 : sameB k n k' n' A B A' B' = false := by simp [sameB, h1]
    rw [e0]; clear e0 h1 hcv
    go_enter Try.func29, Try.ntmps29
    go_wp2
    go_ret
    exact ⟨rfl, ((Fr.refl _ _).alloc _).alloc _⟩
end Go.Proofs.Ytljldkknopmfhaa
