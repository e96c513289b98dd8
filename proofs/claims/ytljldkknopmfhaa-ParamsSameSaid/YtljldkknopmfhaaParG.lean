/- The laws' own helpers: long, awake. -/
import Derived.Test.YtljldkknopmfhaaParE
import Derived.Test.YtljldkknopmfhaaParO
namespace Go.Proofs.Ytljldkknopmfhaa
open Go.RowKit

def TruePost (w : World) (e : Ending) (w' : World) : Prop := e = .returned (.bool true) ∧ Fr No w w'
set_option maxRecDepth 100000 in
theorem long_false (k n : Int) (aA aB : Option Addr) (a b cA cB : Nat) (w : World) (h1 : a ≤ 2000) (h2 : b ≤ 2000) :
    Calls Try.prog 24 #[.agg #[.int .i64 k, .int .i64 n, .slice aA a cA, .slice aB b cB]] w (RPost w false) := by
  have h1' : (a : Int) ≤ 2000 := by omega
  have h2' : decide ((2000 : Int) < b) = false := decide_eq_false (by omega)
  have h3' : decide ((2000 : Int) < a) = false := decide_eq_false (by omega)
  go_enter Try.func24, Try.ntmps24
  go_wp2
  go_ret
  exact ⟨rfl, (Fr.refl _ _).alloc _⟩
set_option maxRecDepth 100000 in
theorem long_true (k n : Int) (aA aB : Option Addr) (a b cA cB : Nat) (w : World) (h : ¬ (a ≤ 2000 ∧ b ≤ 2000)) :
    Calls Try.prog 24 #[.agg #[.int .i64 k, .int .i64 n, .slice aA a cA, .slice aB b cB]] w (RPost w true) := by
  by_cases h1 : a ≤ 2000
  · have h1' : (a : Int) ≤ 2000 := by omega
    have h2' : (2000 : Int) < b := by omega
    clear h
    go_enter Try.func24, Try.ntmps24
    go_wp2
    go_ret
    exact ⟨rfl, (Fr.refl _ _).alloc _⟩
  · have h1' : (2000 : Int) < a := by omega
    clear h
    go_enter Try.func24, Try.ntmps24
    go_wp2
    go_ret
    exact ⟨rfl, (Fr.refl _ _).alloc _⟩

theorem bound_31 (w : World) : Calls Try.prog 32 #[.agg #[.int .i64 4, .int .i64 31, .slice none 0 0, .slice none 0 0]] w (I2Post w 2048 0) := by
  have h := bound_any 4 31 none none [] [] 0 0 w (by decide) (At.nil _ _) (by simp) (by simp)
  rwa [show bndM 4 31 [] [] = 2048 from by decide, show chkM 4 31 [] [] = 0 from by decide] at h
theorem bound_32 (w : World) : Calls Try.prog 32 #[.agg #[.int .i64 4, .int .i64 32, .slice none 0 0, .slice none 0 0]] w (I2Post w 0 12) := by
  have h := bound_any 4 32 none none [] [] 0 0 w (by decide) (At.nil _ _) (by simp) (by simp)
  rwa [show bndM 4 32 [] [] = 0 from by decide, show chkM 4 32 [] [] = 12 from by decide] at h
theorem arity_paste (g : Nat) (c : Nat) (w : World) (h : Row w g 0 [bv 58]) : Calls Try.prog 30 #[.agg #[.int .i64 13, .int .i64 3, .slice (some ⟨g, 0, none⟩) 1 c, .slice none 0 0]] w (I3Post w 3 1 0) := by
  have h := arity_any 13 3 (some ⟨g, 0, none⟩) none [58] [] c 0 w (fun _ => ⟨g, 0, rfl, h⟩) (by simp) (by simp)
  rwa [show insM 13 3 [58] [] = 3 from by decide, show outsM 13 3 [58] [] = 1 from by decide, show chkM 13 3 [58] [] = 0 from by decide] at h
theorem check_zero (w : World) : Calls Try.prog 27 #[.agg #[.int .i64 0, .int .i64 0, .slice none 0 0, .slice none 0 0]] w (IPost w 10) := by
  have h := check_any 0 0 none none [] [] 0 0 w (At.nil _ _) (by simp) (by simp)
  rwa [show chkM 0 0 [] [] = 10 from by decide] at h

set_option maxHeartbeats 1000000 in
set_option maxRecDepth 100000 in
theorem awake_any (w : World) : Calls Try.prog 25 #[] w (TruePost w) := by
  have hcv : ∀ (W : World) (g : Nat), g = W.heap.size → (convert 29 29 (.slice (some ⟨g, 0, none⟩) 1 1)).run Try.prog (W.alloc (.cells #[.int .u8 58] 5)) = .ok (.slice (some ⟨g, 0, none⟩) 1 1) (W.alloc (.cells #[.int .u8 58] 5 (1, 2))) := fun W g hg =>
    conv_const 29 5 Try.underlying29 Try.underlying5 W #[.int .u8 58] 1 1 g hg
  go_enter Try.func25, Try.ntmps25
  go_wp2_with (first
    | (go_at_call 32; (with_reducible refine (bound_31 _).mono ?_); rintro e w1 ⟨rfl, hfr1⟩)
    | (go_at_call 32; (with_reducible refine (bound_32 _).mono ?_); rintro e w2 ⟨rfl, hfr2⟩; have hcv2 := hcv w2 _ rfl)
    | (go_at_call 30; refine (arity_paste _ _ _ (row_at _ #[.int .u8 58] _ rfl _ rfl 5 (1, 2))).mono ?_; rintro e w3 ⟨rfl, hfr3⟩)
    | (go_at_call 27; refine (check_zero _).mono ?_; rintro e w4 ⟨rfl, hfr4⟩))
  go_ret
  exact ⟨rfl, (((hfr1.trans hfr2).alloc _).trans hfr3).trans hfr4⟩
end Go.Proofs.Ytljldkknopmfhaa
