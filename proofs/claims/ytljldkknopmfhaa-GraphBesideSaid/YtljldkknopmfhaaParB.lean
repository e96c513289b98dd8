/- Are A and B as a rule says: the three rules without the sort. -/
import Derived.Test.YtljldkknopmfhaaParM
import Derived.Test.YtljldkknopmfhaaBytes
namespace Go.Proofs.Ytljldkknopmfhaa
open Go.RowKit

theorem contains10_true (a : Option Addr) (n c : Nat) (bs : List UInt8) (w : World) (hn : n = bs.length) (ha : At w a (bs.map bv)) (hl : bs.length ≤ 100000000) (hx : 10 ∈ bs) :
    Calls Try.prog 98 #[.slice a n c, .int .u8 10] w fun e w' => e = .returned (.bool true) ∧ w = w' := contains_true a n c bs 10 w hn ha hl hx
theorem contains10_false (a : Option Addr) (n c : Nat) (bs : List UInt8) (w : World) (hn : n = bs.length) (ha : At w a (bs.map bv)) (hl : bs.length ≤ 100000000) (hx : 10 ∉ bs) :
    Calls Try.prog 98 #[.slice a n c, .int .u8 10] w fun e w' => e = .returned (.bool false) ∧ w = w' := contains_false a n c bs 10 w hn ha hl hx
def BPost (w : World) (b : Bool) (e : Ending) (w' : World) : Prop := e = .returned (.bool b) ∧ Fr No w w'
set_option maxRecDepth 100000 in
theorem bytes_zero (l m i o h e k n : Int) (aA aB : Option Addr) (A B : List UInt8) (cA cB : Nat) (w : World) :
    Calls Try.prog 85 #[.agg #[.int .i64 l, .int .i64 m, .int .i64 0, .int .i64 i, .int .i64 o, .int .i64 h, .int .i64 e], .agg #[.int .i64 k, .int .i64 n, .slice aA A.length cA, .slice aB B.length cB]] w (BPost w (bytesM 0 A B)) := by
  by_cases h1 : A.length = 0
  · by_cases h2 : B.length = 0
    · have hb : bytesM 0 A B = true := by simp [bytesM] ; exact ⟨List.eq_nil_of_length_eq_zero h1, List.eq_nil_of_length_eq_zero h2⟩
      rw [hb, h1, h2]
      clear hb h1 h2
      go_enter Try.func85, Try.ntmps85
      go_wp2
      go_ret
      exact ⟨rfl, ((Fr.refl _ _).alloc _).alloc _⟩
    · have hb : bytesM 0 A B = false := by simp [bytesM]; intro _ h; exact h2 (by simp [h])
      rw [hb, h1]
      have h3 : ((B.length : Int) == 0) = false := by simp only [beq_eq_false_iff_ne]; omega
      clear hb h1 h2
      go_enter Try.func85, Try.ntmps85
      go_wp2
      go_ret
      exact ⟨rfl, ((Fr.refl _ _).alloc _).alloc _⟩
  · have hb : bytesM 0 A B = false := by simp [bytesM]; intro h; exact absurd (by simp [h]) h1
    rw [hb]
    have h3 : ((A.length : Int) == 0) = false := by simp only [beq_eq_false_iff_ne]; omega
    clear hb h1
    go_enter Try.func85, Try.ntmps85
    go_wp2
    go_ret
    exact ⟨rfl, ((Fr.refl _ _).alloc _).alloc _⟩

set_option maxRecDepth 100000 in
theorem bytes_word (l m i o h e k n : Int) (aA aB : Option Addr) (A B : List UInt8) (cA cB : Nat) (w : World) (hA : At w aA (A.map bv)) (hl : A.length ≤ 100000000) :
    Calls Try.prog 85 #[.agg #[.int .i64 l, .int .i64 m, .int .i64 1, .int .i64 i, .int .i64 o, .int .i64 h, .int .i64 e], .agg #[.int .i64 k, .int .i64 n, .slice aA A.length cA, .slice aB B.length cB]] w (BPost w (bytesM 1 A B)) := by
  by_cases h1 : 1 ≤ A.length
  · by_cases h2 : A.length ≤ 16
    · have h1' : (1 : Int) ≤ A.length := by omega
      have h2' : (A.length : Int) ≤ 16 := by omega
      by_cases h3 : 10 ∈ A
      · have hb : bytesM 1 A B = false := by simp [bytesM, h3]
        rw [hb]
        clear hb
        go_enter Try.func85, Try.ntmps85
        go_wp2_with (go_at_call 98; (refine (contains10_true _ _ _ A _ rfl (hA.fr (((Fr.refl No w).alloc _).alloc _) (fun _ _ _ _ _ _ x => x)) hl h3).mono ?_; rintro e w' ⟨rfl, rfl⟩))
        go_ret
        exact ⟨rfl, ((Fr.refl _ _).alloc _).alloc _⟩
      · by_cases h4 : B.length = 0
        · have hb : bytesM 1 A B = true := by simp [bytesM, h3, h4]; omega
          rw [hb, h4]
          clear hb h4
          go_enter Try.func85, Try.ntmps85
          go_wp2_with (go_at_call 98; refine (contains10_false _ _ _ A _ rfl (hA.fr (((Fr.refl No w).alloc _).alloc _) (fun _ _ _ _ _ _ x => x)) hl h3).mono ?_; rintro e w' ⟨rfl, rfl⟩)
          go_ret
          exact ⟨rfl, ((Fr.refl _ _).alloc _).alloc _⟩
        · have hb : bytesM 1 A B = false := by simp [bytesM, h4]
          rw [hb]
          have h5 : ((B.length : Int) == 0) = false := by simp only [beq_eq_false_iff_ne]; omega
          clear hb h4
          go_enter Try.func85, Try.ntmps85
          go_wp2_with (go_at_call 98; refine (contains10_false _ _ _ A _ rfl (hA.fr (((Fr.refl No w).alloc _).alloc _) (fun _ _ _ _ _ _ x => x)) hl h3).mono ?_; rintro e w' ⟨rfl, rfl⟩)
          go_ret
          exact ⟨rfl, ((Fr.refl _ _).alloc _).alloc _⟩
    · have hb : bytesM 1 A B = false := by simp [bytesM, h2]
      rw [hb]
      have h1' : (1 : Int) ≤ A.length := by omega
      have h2' : ¬ (A.length : Int) ≤ 16 := by omega
      clear hb hA
      go_enter Try.func85, Try.ntmps85
      go_wp2
      go_ret
      exact ⟨rfl, ((Fr.refl _ _).alloc _).alloc _⟩
  · have hb : bytesM 1 A B = false := by
      simp [bytesM]; omega
    rw [hb]
    have h1' : ¬ (1 : Int) ≤ A.length := by omega
    clear hb hA
    go_enter Try.func85, Try.ntmps85
    go_wp2
    go_ret
    exact ⟨rfl, ((Fr.refl _ _).alloc _).alloc _⟩

set_option maxRecDepth 100000 in
theorem bytes_part (l m i o h e k n : Int) (aA aB : Option Addr) (A B : List UInt8) (cA cB : Nat) (w : World) (hA : At w aA (A.map bv)) :
    Calls Try.prog 85 #[.agg #[.int .i64 l, .int .i64 m, .int .i64 3, .int .i64 i, .int .i64 o, .int .i64 h, .int .i64 e], .agg #[.int .i64 k, .int .i64 n, .slice aA A.length cA, .slice aB B.length cB]] w (BPost w (bytesM 3 A B)) := by
  by_cases h1 : A.length = 1
  · obtain ⟨x, rfl⟩ := List.length_eq_one_iff.1 h1
    obtain ⟨g, off, rfl, hrow⟩ := hA (by simp)
    have hlt := hrow.lt (by simp)
    have hc : w.cell? ⟨g, off + 0, none⟩ = some (.int .u8 x.toNat) := hrow.get 0 (bv x) rfl
    simp only [Nat.add_zero] at hc
    clear h1 hrow
    by_cases hx : x = 10
    · have hb : bytesM 3 [x] B = false := by simp [bytesM, hx]
      rw [hb]
      subst hx
      replace hc : w.cell? ⟨g, off + 0, none⟩ = some (.int .u8 10) := hc
      simp only [Nat.add_zero] at hc
      simp only [List.length_cons, List.length_nil, Nat.zero_add]
      clear hb hA
      go_enter Try.func85, Try.ntmps85
      go_wp2
      go_ret
      exact ⟨rfl, ((Fr.refl _ _).alloc _).alloc _⟩
    · have hx1 : ((x.toNat : Int) != 10) = true := by
        simp only [bne_iff_ne, ne_eq]; intro e; apply hx; apply UInt8.toNat.inj; show x.toNat = 10; omega
      have hx2 : (x.toNat != 10) = true := by
        simp only [bne_iff_ne, ne_eq]; intro e; apply hx; apply UInt8.toNat.inj; exact e
      have hx3 : ((x.toNat : Int) == 10) = false := by simpa using hx1
      by_cases h4 : B.length = 0
      · have hb : bytesM 3 [x] B = true := by simp [bytesM, hx, h4]
        rw [hb, h4]
        simp only [List.length_cons, List.length_nil, Nat.zero_add]
        have HX := Lib.hid hx
        clear hb hA h4 hx
        go_enter Try.func85, Try.ntmps85
        go_wp2
        go_ret
        exact ⟨rfl, ((Fr.refl _ _).alloc _).alloc _⟩
      · have hb : bytesM 3 [x] B = false := by simp [bytesM, hx]; intro e; exact h4 (by simp [e])
        rw [hb]
        have h5 : ((B.length : Int) == 0) = false := by simp only [beq_eq_false_iff_ne]; omega
        simp only [List.length_cons, List.length_nil, Nat.zero_add]
        clear hb hA h4 hx
        go_enter Try.func85, Try.ntmps85
        go_wp2
        go_ret
        exact ⟨rfl, ((Fr.refl _ _).alloc _).alloc _⟩
  · have hb : bytesM 3 A B = false := by simp [bytesM, h1]
    rw [hb]
    have h3 : ((A.length : Int) == 1) = false := by simp only [beq_eq_false_iff_ne]; omega
    clear hb h1 hA
    go_enter Try.func85, Try.ntmps85
    go_wp2
    go_ret
    exact ⟨rfl, ((Fr.refl _ _).alloc _).alloc _⟩
end Go.Proofs.Ytljldkknopmfhaa
