/- The document's Arity and Bound. -/
import Derived.Test.YtppgojcfgdooiaaParT
import Derived.OwnWalk
namespace Go.Proofs.Ytppgojcfgdooiaa
open Go.RowKit

def I3Post (w : World) (a b c : Int) (e : Ending) (w' : World) : Prop := e = .returned (.tuple #[.int .i64 a, .int .i64 b, .int .i64 c]) ∧ Fr No w w'
def I2Post (w : World) (a b : Int) (e : Ending) (w' : World) : Prop := e = .returned (.tuple #[.int .i64 a, .int .i64 b]) ∧ Fr No w w'
theorem chkR_kind (k n : Int) (A B : List UInt8) (h : chkR k n A B = 0) : ¬ (k < 1 ∨ 16 < k) ∧ rowR k n A B = true := by
  unfold chkR at h
  split at h
  · omega
  split at h
  · omega
  · rename_i h1 h2; exact ⟨h1, by simpa using h2⟩
set_option maxRecDepth 100000 in
theorem rarity_1 (n : Int) (aA aB : Option Addr) (A B : List UInt8) (cA cB : Nat) (w : World) (hA : At w aA (A.map bv)) (hl : A.length ≤ 100000000) (hl2 : B.length ≤ 100000000) (hc : chkR 1 n A B = 0) :
    Calls Try.prog 32 #[.agg #[.int .i64 1, .int .i64 n, .slice aA A.length cA, .slice aB B.length cB]] w (I3Post w 0 1 0) := by
  have hck := fun W hW => rcheck_any 1 n aA aB A B cA cB W hW hl hl2
  rw [hc] at hck
  have HC := Lib.hid hck; clear hck hc
  go_enter Try.func32, Try.ntmps32
  go_wp2_with (go_at_call 12; refine (HC.out _ (hA.fr ((Fr.refl No w).alloc _) (fun _ _ _ _ _ _ x => x))).mono ?_; rintro e w1 ⟨rfl, hfr1⟩; obtain ⟨hc1, hz1⟩ := hfr1.at)
  try (go_quiet (fail); go_wp2)
  go_ret3
  first | exact ⟨rfl, ((Fr.refl _ _).alloc _).trans hfr1⟩ | exact ⟨rfl, (((Fr.refl _ _).alloc _).trans hfr1).drewN nq⟩
set_option maxRecDepth 100000 in
theorem rarity_2 (n : Int) (aA aB : Option Addr) (A B : List UInt8) (cA cB : Nat) (w : World) (hA : At w aA (A.map bv)) (hl : A.length ≤ 100000000) (hl2 : B.length ≤ 100000000) (hc : chkR 2 n A B = 0) :
    Calls Try.prog 32 #[.agg #[.int .i64 2, .int .i64 n, .slice aA A.length cA, .slice aB B.length cB]] w (I3Post w 1 0 0) := by
  have hck := fun W hW => rcheck_any 2 n aA aB A B cA cB W hW hl hl2
  rw [hc] at hck
  have HC := Lib.hid hck; clear hck hc
  go_enter Try.func32, Try.ntmps32
  go_wp2_with (go_at_call 12; refine (HC.out _ (hA.fr ((Fr.refl No w).alloc _) (fun _ _ _ _ _ _ x => x))).mono ?_; rintro e w1 ⟨rfl, hfr1⟩; obtain ⟨hc1, hz1⟩ := hfr1.at)
  try (go_quiet (fail); go_wp2)
  go_ret3
  first | exact ⟨rfl, ((Fr.refl _ _).alloc _).trans hfr1⟩ | exact ⟨rfl, (((Fr.refl _ _).alloc _).trans hfr1).drewN nq⟩
set_option maxRecDepth 100000 in
theorem rarity_3 (n : Int) (aA aB : Option Addr) (A B : List UInt8) (cA cB : Nat) (w : World) (hA : At w aA (A.map bv)) (hl : A.length ≤ 100000000) (hl2 : B.length ≤ 100000000) (hc : chkR 3 n A B = 0) :
    Calls Try.prog 32 #[.agg #[.int .i64 3, .int .i64 n, .slice aA A.length cA, .slice aB B.length cB]] w (I3Post w 1 1 0) := by
  have hck := fun W hW => rcheck_any 3 n aA aB A B cA cB W hW hl hl2
  rw [hc] at hck
  have HC := Lib.hid hck; clear hck hc
  go_enter Try.func32, Try.ntmps32
  go_wp2_with (go_at_call 12; refine (HC.out _ (hA.fr ((Fr.refl No w).alloc _) (fun _ _ _ _ _ _ x => x))).mono ?_; rintro e w1 ⟨rfl, hfr1⟩; obtain ⟨hc1, hz1⟩ := hfr1.at)
  try (go_quiet (fail); go_wp2)
  go_ret3
  first | exact ⟨rfl, ((Fr.refl _ _).alloc _).trans hfr1⟩ | exact ⟨rfl, (((Fr.refl _ _).alloc _).trans hfr1).drewN nq⟩
set_option maxRecDepth 100000 in
theorem rarity_4 (n : Int) (aA aB : Option Addr) (A B : List UInt8) (cA cB : Nat) (w : World) (hA : At w aA (A.map bv)) (hl : A.length ≤ 100000000) (hl2 : B.length ≤ 100000000) (hc : chkR 4 n A B = 0) :
    Calls Try.prog 32 #[.agg #[.int .i64 4, .int .i64 n, .slice aA A.length cA, .slice aB B.length cB]] w (I3Post w 1 1 0) := by
  have hck := fun W hW => rcheck_any 4 n aA aB A B cA cB W hW hl hl2
  rw [hc] at hck
  have HC := Lib.hid hck; clear hck hc
  go_enter Try.func32, Try.ntmps32
  go_wp2_with (go_at_call 12; refine (HC.out _ (hA.fr ((Fr.refl No w).alloc _) (fun _ _ _ _ _ _ x => x))).mono ?_; rintro e w1 ⟨rfl, hfr1⟩; obtain ⟨hc1, hz1⟩ := hfr1.at)
  try (go_quiet (fail); go_wp2)
  go_ret3
  first | exact ⟨rfl, ((Fr.refl _ _).alloc _).trans hfr1⟩ | exact ⟨rfl, (((Fr.refl _ _).alloc _).trans hfr1).drewN nq⟩
set_option maxRecDepth 100000 in
theorem rarity_5 (n : Int) (aA aB : Option Addr) (A B : List UInt8) (cA cB : Nat) (w : World) (hA : At w aA (A.map bv)) (hl : A.length ≤ 100000000) (hl2 : B.length ≤ 100000000) (hc : chkR 5 n A B = 0) :
    Calls Try.prog 32 #[.agg #[.int .i64 5, .int .i64 n, .slice aA A.length cA, .slice aB B.length cB]] w (I3Post w 1 1 0) := by
  have hck := fun W hW => rcheck_any 5 n aA aB A B cA cB W hW hl hl2
  rw [hc] at hck
  have HC := Lib.hid hck; clear hck hc
  go_enter Try.func32, Try.ntmps32
  go_wp2_with (go_at_call 12; refine (HC.out _ (hA.fr ((Fr.refl No w).alloc _) (fun _ _ _ _ _ _ x => x))).mono ?_; rintro e w1 ⟨rfl, hfr1⟩; obtain ⟨hc1, hz1⟩ := hfr1.at)
  try (go_quiet (fail); go_wp2)
  go_ret3
  first | exact ⟨rfl, ((Fr.refl _ _).alloc _).trans hfr1⟩ | exact ⟨rfl, (((Fr.refl _ _).alloc _).trans hfr1).drewN nq⟩
set_option maxRecDepth 100000 in
theorem rarity_6 (n : Int) (aA aB : Option Addr) (A B : List UInt8) (cA cB : Nat) (w : World) (hA : At w aA (A.map bv)) (hl : A.length ≤ 100000000) (hl2 : B.length ≤ 100000000) (hc : chkR 6 n A B = 0) :
    Calls Try.prog 32 #[.agg #[.int .i64 6, .int .i64 n, .slice aA A.length cA, .slice aB B.length cB]] w (I3Post w 1 1 0) := by
  have hck := fun W hW => rcheck_any 6 n aA aB A B cA cB W hW hl hl2
  rw [hc] at hck
  have HC := Lib.hid hck; clear hck hc
  go_enter Try.func32, Try.ntmps32
  go_wp2_with (go_at_call 12; refine (HC.out _ (hA.fr ((Fr.refl No w).alloc _) (fun _ _ _ _ _ _ x => x))).mono ?_; rintro e w1 ⟨rfl, hfr1⟩; obtain ⟨hc1, hz1⟩ := hfr1.at)
  try (go_quiet (fail); go_wp2)
  go_ret3
  first | exact ⟨rfl, ((Fr.refl _ _).alloc _).trans hfr1⟩ | exact ⟨rfl, (((Fr.refl _ _).alloc _).trans hfr1).drewN nq⟩
set_option maxRecDepth 100000 in
theorem rarity_7 (n : Int) (aA aB : Option Addr) (A B : List UInt8) (cA cB : Nat) (w : World) (hA : At w aA (A.map bv)) (hl : A.length ≤ 100000000) (hl2 : B.length ≤ 100000000) (hc : chkR 7 n A B = 0) :
    Calls Try.prog 32 #[.agg #[.int .i64 7, .int .i64 n, .slice aA A.length cA, .slice aB B.length cB]] w (I3Post w 1 1 0) := by
  have hck := fun W hW => rcheck_any 7 n aA aB A B cA cB W hW hl hl2
  rw [hc] at hck
  have HC := Lib.hid hck; clear hck hc
  go_enter Try.func32, Try.ntmps32
  go_wp2_with (go_at_call 12; refine (HC.out _ (hA.fr ((Fr.refl No w).alloc _) (fun _ _ _ _ _ _ x => x))).mono ?_; rintro e w1 ⟨rfl, hfr1⟩; obtain ⟨hc1, hz1⟩ := hfr1.at)
  try (go_quiet (fail); go_wp2)
  go_ret3
  first | exact ⟨rfl, ((Fr.refl _ _).alloc _).trans hfr1⟩ | exact ⟨rfl, (((Fr.refl _ _).alloc _).trans hfr1).drewN nq⟩
set_option maxRecDepth 100000 in
theorem rarity_8 (n : Int) (aA aB : Option Addr) (A B : List UInt8) (cA cB : Nat) (w : World) (hA : At w aA (A.map bv)) (hl : A.length ≤ 100000000) (hl2 : B.length ≤ 100000000) (hc : chkR 8 n A B = 0) :
    Calls Try.prog 32 #[.agg #[.int .i64 8, .int .i64 n, .slice aA A.length cA, .slice aB B.length cB]] w (I3Post w 1 1 0) := by
  have hck := fun W hW => rcheck_any 8 n aA aB A B cA cB W hW hl hl2
  rw [hc] at hck
  have HC := Lib.hid hck; clear hck hc
  go_enter Try.func32, Try.ntmps32
  go_wp2_with (go_at_call 12; refine (HC.out _ (hA.fr ((Fr.refl No w).alloc _) (fun _ _ _ _ _ _ x => x))).mono ?_; rintro e w1 ⟨rfl, hfr1⟩; obtain ⟨hc1, hz1⟩ := hfr1.at)
  try (go_quiet (fail); go_wp2)
  go_ret3
  first | exact ⟨rfl, ((Fr.refl _ _).alloc _).trans hfr1⟩ | exact ⟨rfl, (((Fr.refl _ _).alloc _).trans hfr1).drewN nq⟩
set_option maxRecDepth 100000 in
theorem rarity_9 (n : Int) (aA aB : Option Addr) (A B : List UInt8) (cA cB : Nat) (w : World) (hA : At w aA (A.map bv)) (hl : A.length ≤ 100000000) (hl2 : B.length ≤ 100000000) (hc : chkR 9 n A B = 0) :
    Calls Try.prog 32 #[.agg #[.int .i64 9, .int .i64 n, .slice aA A.length cA, .slice aB B.length cB]] w (I3Post w 1 1 0) := by
  have hck := fun W hW => rcheck_any 9 n aA aB A B cA cB W hW hl hl2
  rw [hc] at hck
  have HC := Lib.hid hck; clear hck hc
  go_enter Try.func32, Try.ntmps32
  go_wp2_with (go_at_call 12; refine (HC.out _ (hA.fr ((Fr.refl No w).alloc _) (fun _ _ _ _ _ _ x => x))).mono ?_; rintro e w1 ⟨rfl, hfr1⟩; obtain ⟨hc1, hz1⟩ := hfr1.at)
  try (go_quiet (fail); go_wp2)
  go_ret3
  first | exact ⟨rfl, ((Fr.refl _ _).alloc _).trans hfr1⟩ | exact ⟨rfl, (((Fr.refl _ _).alloc _).trans hfr1).drewN nq⟩
set_option maxRecDepth 100000 in
theorem rarity_10 (n : Int) (aA aB : Option Addr) (A B : List UInt8) (cA cB : Nat) (w : World) (hA : At w aA (A.map bv)) (hl : A.length ≤ 100000000) (hl2 : B.length ≤ 100000000) (hc : chkR 10 n A B = 0) :
    Calls Try.prog 32 #[.agg #[.int .i64 10, .int .i64 n, .slice aA A.length cA, .slice aB B.length cB]] w (I3Post w 1 1 0) := by
  have hck := fun W hW => rcheck_any 10 n aA aB A B cA cB W hW hl hl2
  rw [hc] at hck
  have HC := Lib.hid hck; clear hck hc
  go_enter Try.func32, Try.ntmps32
  go_wp2_with (go_at_call 12; refine (HC.out _ (hA.fr ((Fr.refl No w).alloc _) (fun _ _ _ _ _ _ x => x))).mono ?_; rintro e w1 ⟨rfl, hfr1⟩; obtain ⟨hc1, hz1⟩ := hfr1.at)
  try (go_quiet (fail); go_wp2)
  go_ret3
  first | exact ⟨rfl, ((Fr.refl _ _).alloc _).trans hfr1⟩ | exact ⟨rfl, (((Fr.refl _ _).alloc _).trans hfr1).drewN nq⟩
set_option maxRecDepth 100000 in
theorem rarity_11 (n : Int) (aA aB : Option Addr) (A B : List UInt8) (cA cB : Nat) (w : World) (hA : At w aA (A.map bv)) (hl : A.length ≤ 100000000) (hl2 : B.length ≤ 100000000) (hc : chkR 11 n A B = 0) :
    Calls Try.prog 32 #[.agg #[.int .i64 11, .int .i64 n, .slice aA A.length cA, .slice aB B.length cB]] w (I3Post w 1 1 0) := by
  have hck := fun W hW => rcheck_any 11 n aA aB A B cA cB W hW hl hl2
  rw [hc] at hck
  have HC := Lib.hid hck; clear hck hc
  go_enter Try.func32, Try.ntmps32
  go_wp2_with (go_at_call 12; refine (HC.out _ (hA.fr ((Fr.refl No w).alloc _) (fun _ _ _ _ _ _ x => x))).mono ?_; rintro e w1 ⟨rfl, hfr1⟩; obtain ⟨hc1, hz1⟩ := hfr1.at)
  try (go_quiet (fail); go_wp2)
  go_ret3
  first | exact ⟨rfl, ((Fr.refl _ _).alloc _).trans hfr1⟩ | exact ⟨rfl, (((Fr.refl _ _).alloc _).trans hfr1).drewN nq⟩
set_option maxRecDepth 100000 in
theorem rarity_12 (n : Int) (aA aB : Option Addr) (A B : List UInt8) (cA cB : Nat) (w : World) (hA : At w aA (A.map bv)) (hl : A.length ≤ 100000000) (hl2 : B.length ≤ 100000000) (hc : chkR 12 n A B = 0) :
    Calls Try.prog 32 #[.agg #[.int .i64 12, .int .i64 n, .slice aA A.length cA, .slice aB B.length cB]] w (I3Post w n 1 0) := by
  have hck := fun W hW => rcheck_any 12 n aA aB A B cA cB W hW hl hl2
  rw [hc] at hck
  have HC := Lib.hid hck; clear hck hc
  go_enter Try.func32, Try.ntmps32
  go_wp2_with (go_at_call 12; refine (HC.out _ (hA.fr ((Fr.refl No w).alloc _) (fun _ _ _ _ _ _ x => x))).mono ?_; rintro e w1 ⟨rfl, hfr1⟩; obtain ⟨hc1, hz1⟩ := hfr1.at)
  try (go_quiet (fail); go_wp2)
  go_ret3
  first | exact ⟨rfl, ((Fr.refl _ _).alloc _).trans hfr1⟩ | exact ⟨rfl, (((Fr.refl _ _).alloc _).trans hfr1).drewN nq⟩
set_option maxRecDepth 100000 in
theorem rarity_13 (n : Int) (aA aB : Option Addr) (A B : List UInt8) (cA cB : Nat) (w : World) (hA : At w aA (A.map bv)) (hl : A.length ≤ 100000000) (hl2 : B.length ≤ 100000000) (hc : chkR 13 n A B = 0) :
    Calls Try.prog 32 #[.agg #[.int .i64 13, .int .i64 n, .slice aA A.length cA, .slice aB B.length cB]] w (I3Post w n 1 0) := by
  have hck := fun W hW => rcheck_any 13 n aA aB A B cA cB W hW hl hl2
  rw [hc] at hck
  have HC := Lib.hid hck; clear hck hc
  go_enter Try.func32, Try.ntmps32
  go_wp2_with (go_at_call 12; refine (HC.out _ (hA.fr ((Fr.refl No w).alloc _) (fun _ _ _ _ _ _ x => x))).mono ?_; rintro e w1 ⟨rfl, hfr1⟩; obtain ⟨hc1, hz1⟩ := hfr1.at)
  try (go_quiet (fail); go_wp2)
  go_ret3
  first | exact ⟨rfl, ((Fr.refl _ _).alloc _).trans hfr1⟩ | exact ⟨rfl, (((Fr.refl _ _).alloc _).trans hfr1).drewN nq⟩
set_option maxRecDepth 100000 in
theorem rarity_14 (n : Int) (aA aB : Option Addr) (A B : List UInt8) (cA cB : Nat) (w : World) (hA : At w aA (A.map bv)) (hl : A.length ≤ 100000000) (hl2 : B.length ≤ 100000000) (hc : chkR 14 n A B = 0) :
    Calls Try.prog 32 #[.agg #[.int .i64 14, .int .i64 n, .slice aA A.length cA, .slice aB B.length cB]] w (I3Post w 2 1 0) := by
  have hck := fun W hW => rcheck_any 14 n aA aB A B cA cB W hW hl hl2
  rw [hc] at hck
  have HC := Lib.hid hck; clear hck hc
  go_enter Try.func32, Try.ntmps32
  go_wp2_with (go_at_call 12; refine (HC.out _ (hA.fr ((Fr.refl No w).alloc _) (fun _ _ _ _ _ _ x => x))).mono ?_; rintro e w1 ⟨rfl, hfr1⟩; obtain ⟨hc1, hz1⟩ := hfr1.at)
  try (go_quiet (fail); go_wp2)
  go_ret3
  first | exact ⟨rfl, ((Fr.refl _ _).alloc _).trans hfr1⟩ | exact ⟨rfl, (((Fr.refl _ _).alloc _).trans hfr1).drewN nq⟩
set_option maxRecDepth 100000 in
theorem rarity_15 (n : Int) (aA aB : Option Addr) (A B : List UInt8) (cA cB : Nat) (w : World) (hA : At w aA (A.map bv)) (hl : A.length ≤ 100000000) (hl2 : B.length ≤ 100000000) (hc : chkR 15 n A B = 0) :
    Calls Try.prog 32 #[.agg #[.int .i64 15, .int .i64 n, .slice aA A.length cA, .slice aB B.length cB]] w (I3Post w 1 n 0) := by
  have hck := fun W hW => rcheck_any 15 n aA aB A B cA cB W hW hl hl2
  rw [hc] at hck
  have HC := Lib.hid hck; clear hck hc
  go_enter Try.func32, Try.ntmps32
  go_wp2_with (go_at_call 12; refine (HC.out _ (hA.fr ((Fr.refl No w).alloc _) (fun _ _ _ _ _ _ x => x))).mono ?_; rintro e w1 ⟨rfl, hfr1⟩; obtain ⟨hc1, hz1⟩ := hfr1.at)
  try (go_quiet (fail); go_wp2)
  go_ret3
  first | exact ⟨rfl, ((Fr.refl _ _).alloc _).trans hfr1⟩ | exact ⟨rfl, (((Fr.refl _ _).alloc _).trans hfr1).drewN nq⟩
set_option maxRecDepth 100000 in
theorem rarity_16 (n : Int) (aA aB : Option Addr) (A B : List UInt8) (cA cB : Nat) (w : World) (hA : At w aA (A.map bv)) (hl : A.length ≤ 100000000) (hl2 : B.length ≤ 100000000) (hc : chkR 16 n A B = 0) :
    Calls Try.prog 32 #[.agg #[.int .i64 16, .int .i64 n, .slice aA A.length cA, .slice aB B.length cB]] w (I3Post w 1 n 0) := by
  have hck := fun W hW => rcheck_any 16 n aA aB A B cA cB W hW hl hl2
  rw [hc] at hck
  have HC := Lib.hid hck; clear hck hc
  go_enter Try.func32, Try.ntmps32
  go_wp2_with (go_at_call 12; refine (HC.out _ (hA.fr ((Fr.refl No w).alloc _) (fun _ _ _ _ _ _ x => x))).mono ?_; rintro e w1 ⟨rfl, hfr1⟩; obtain ⟨hc1, hz1⟩ := hfr1.at)
  try (go_quiet (fail); go_wp2)
  go_ret3
  first | exact ⟨rfl, ((Fr.refl _ _).alloc _).trans hfr1⟩ | exact ⟨rfl, (((Fr.refl _ _).alloc _).trans hfr1).drewN nq⟩
set_option maxRecDepth 100000 in
theorem rarity_any (k n : Int) (aA aB : Option Addr) (A B : List UInt8) (cA cB : Nat) (w : World) (hA : At w aA (A.map bv)) (hl : A.length ≤ 100000000) (hl2 : B.length ≤ 100000000) :
    Calls Try.prog 32 #[.agg #[.int .i64 k, .int .i64 n, .slice aA A.length cA, .slice aB B.length cB]] w (I3Post w (insR k n A B) (outsR k n A B) (chkR k n A B)) := by
  by_cases h0 : chkR k n A B = 0
  · obtain ⟨hk, _⟩ := chkR_kind k n A B h0
    rw [show insR k n A B = if k = 1 then 0 else if k = 2 then 1 else if k = 12 ∨ k = 13 then n else if k = 14 then 2 else 1 from by unfold insR; rw [if_neg (by simp [h0])],
      show outsR k n A B = if k = 1 then 1 else if k = 2 then 0 else if k = 15 ∨ k = 16 then n else 1 from by unfold outsR; rw [if_neg (by simp [h0])], h0]
    rcases kinds k hk with rfl | rfl | rfl | rfl | rfl | rfl | rfl | rfl | rfl | rfl | rfl | rfl | rfl | rfl | rfl | rfl
    · exact rarity_1 n aA aB A B cA cB w hA hl hl2 h0
    · exact rarity_2 n aA aB A B cA cB w hA hl hl2 h0
    · exact rarity_3 n aA aB A B cA cB w hA hl hl2 h0
    · exact rarity_4 n aA aB A B cA cB w hA hl hl2 h0
    · exact rarity_5 n aA aB A B cA cB w hA hl hl2 h0
    · exact rarity_6 n aA aB A B cA cB w hA hl hl2 h0
    · exact rarity_7 n aA aB A B cA cB w hA hl hl2 h0
    · exact rarity_8 n aA aB A B cA cB w hA hl hl2 h0
    · exact rarity_9 n aA aB A B cA cB w hA hl hl2 h0
    · exact rarity_10 n aA aB A B cA cB w hA hl hl2 h0
    · exact rarity_11 n aA aB A B cA cB w hA hl hl2 h0
    · exact rarity_12 n aA aB A B cA cB w hA hl hl2 h0
    · exact rarity_13 n aA aB A B cA cB w hA hl hl2 h0
    · exact rarity_14 n aA aB A B cA cB w hA hl hl2 h0
    · exact rarity_15 n aA aB A B cA cB w hA hl hl2 h0
    · exact rarity_16 n aA aB A B cA cB w hA hl hl2 h0
  · rw [show insR k n A B = 0 from by unfold insR; rw [if_pos h0], show outsR k n A B = 0 from by unfold outsR; rw [if_pos h0]]
    have hck := fun W hW => rcheck_any k n aA aB A B cA cB W hW hl hl2
    have hne : (chkR k n A B != 0) = true := by simp [h0]
    have hne2 : (chkR k n A B == 0) = false := by simp [h0]
    generalize chkR k n A B = c at *
    have HC := Lib.hid hck; clear hck h0
    go_enter Try.func32, Try.ntmps32
    go_wp2_with (go_at_call 12; refine (HC.out _ (hA.fr ((Fr.refl No w).alloc _) (fun _ _ _ _ _ _ x => x))).mono ?_; rintro e w1 ⟨rfl, hfr1⟩; obtain ⟨hc1, hz1⟩ := hfr1.at)
    try (go_quiet (fail); go_wp2)
    go_ret3
    first | exact ⟨rfl, ((Fr.refl _ _).alloc _).trans hfr1⟩ | exact ⟨rfl, (((Fr.refl _ _).alloc _).trans hfr1).drewN nq⟩
set_option maxRecDepth 100000 in
theorem rbound_any (k n : Int) (aA aB : Option Addr) (A B : List UInt8) (cA cB : Nat) (w : World) (hA : At w aA (A.map bv)) (hl : A.length ≤ 100000000) (hl2 : B.length ≤ 100000000) :
    Calls Try.prog 20 #[.agg #[.int .i64 k, .int .i64 n, .slice aA A.length cA, .slice aB B.length cB]] w (I2Post w (bndR k n A B) (chkR k n A B)) := by
  have hck := fun W hW => rcheck_any k n aA aB A B cA cB W hW hl hl2
  by_cases h0 : chkR k n A B = 0
  · obtain ⟨hk, hr⟩ := chkR_kind k n A B h0
    obtain ⟨hb1, hb2⟩ := rowR_bounds k n A B hr
    rw [show bndR k n A B = holdsR k n from by unfold bndR; rw [if_neg (by simp [h0])]]
    rw [h0] at hck ⊢
    have hh := fun W => holds_any k n (.slice aA A.length cA) (.slice aB B.length cB) W hk hb1 hb2
    generalize holdsR k n = hv at *
    have HH := Lib.hid hh
    have HC := Lib.hid hck; clear hck h0 hh hk hb2 hr
    go_enter Try.func20, Try.ntmps20
    go_wp2_with (first
      | (go_at_call 12; refine (HC.out _ (hA.fr ((Fr.refl No w).alloc _) (fun _ _ _ _ _ _ x => x))).mono ?_; rintro e w1 ⟨rfl, hfr1⟩; obtain ⟨hc1, hz1⟩ := hfr1.at)
      | (go_at_call 28; refine (HH.out _).mono ?_; rintro e w2 ⟨rfl, hfr2⟩))
    go_ret2
    exact ⟨rfl, (((Fr.refl _ _).alloc _).trans hfr1).trans hfr2⟩
  · rw [show bndR k n A B = 0 from by unfold bndR; rw [if_pos h0]]
    have hne : (chkR k n A B != 0) = true := by simp [h0]
    have hne2 : (chkR k n A B == 0) = false := by simp [h0]
    generalize chkR k n A B = c at *
    have HC := Lib.hid hck; clear hck h0
    go_enter Try.func20, Try.ntmps20
    go_wp2_with (go_at_call 12; refine (HC.out _ (hA.fr ((Fr.refl No w).alloc _) (fun _ _ _ _ _ _ x => x))).mono ?_; rintro e w1 ⟨rfl, hfr1⟩; obtain ⟨hc1, hz1⟩ := hfr1.at)
    go_ret2
    exact ⟨rfl, ((Fr.refl _ _).alloc _).trans hfr1⟩
end Go.Proofs.Ytppgojcfgdooiaa
