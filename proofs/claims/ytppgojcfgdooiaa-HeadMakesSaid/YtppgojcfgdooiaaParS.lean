/- The document's row of a kind. -/
import Derived.Test.YtppgojcfgdooiaaParR
import Derived.BigGuardPart
import Derived.Deep.Light
namespace Go.Proofs.Ytppgojcfgdooiaa
open Go.RowKit

def RPost (w : World) (b : Bool) (e : Ending) (w' : World) : Prop := e = .returned (.bool b) ∧ Fr No w w'
set_option maxRecDepth 100000 in
theorem row_1 (n : Int) (aA aB : Option Addr) (A B : List UInt8) (cA cB : Nat) (w : World) (hA : At w aA (A.map bv)) (hl : A.length ≤ 100000000) (hl2 : B.length ≤ 100000000) :
    Calls Try.prog 27 #[.agg #[.int .i64 1, .int .i64 n, .slice aA A.length cA, .slice aB B.length cB]] w (RPost w (rowR 1 n A B)) := by
  go_enter Try.func27, Try.ntmps27
  go_wp2_with (first
    | (go_at_call 38; refine (within_any _ _ _ _).mono ?_; rintro e w1 ⟨rfl, rfl⟩)
    | (go_at_call 41; refine (one_any _ _ _ A _ rfl (hA.fr ((Fr.refl No w).alloc _) (fun _ _ _ _ _ _ x => x))).mono ?_; rintro e w1 ⟨rfl, rfl⟩)
    | (go_at_call 40; refine (unlike_any _ _ _ A _ rfl (hA.fr ((Fr.refl No w).alloc _) (fun _ _ _ _ _ _ x => x)) hl).mono ?_; rintro e w1 ⟨rfl, nq, rfl⟩)
    | (go_at_call 39; refine (has10_any _ _ _ A _ rfl (hA.fr ((Fr.refl No w).alloc _) (fun _ _ _ _ _ _ x => x)) hl).mono ?_; rintro e w1 ⟨rfl, rfl⟩))
  all_goals
    go_ret
    go_light
    refine ⟨?_, ?_⟩
    · simp [rowR, *]
      try (intros; simp_all)
    · first | exact (Fr.refl _ _).alloc _ | exact ((Fr.refl _ _).alloc _).drewN _
set_option maxRecDepth 100000 in
theorem row_2 (n : Int) (aA aB : Option Addr) (A B : List UInt8) (cA cB : Nat) (w : World) (hA : At w aA (A.map bv)) (hl : A.length ≤ 100000000) (hl2 : B.length ≤ 100000000) :
    Calls Try.prog 27 #[.agg #[.int .i64 2, .int .i64 n, .slice aA A.length cA, .slice aB B.length cB]] w (RPost w (rowR 2 n A B)) := by
  go_enter Try.func27, Try.ntmps27
  go_wp2_with (first
    | (go_at_call 38; refine (within_any _ _ _ _).mono ?_; rintro e w1 ⟨rfl, rfl⟩)
    | (go_at_call 41; refine (one_any _ _ _ A _ rfl (hA.fr ((Fr.refl No w).alloc _) (fun _ _ _ _ _ _ x => x))).mono ?_; rintro e w1 ⟨rfl, rfl⟩)
    | (go_at_call 40; refine (unlike_any _ _ _ A _ rfl (hA.fr ((Fr.refl No w).alloc _) (fun _ _ _ _ _ _ x => x)) hl).mono ?_; rintro e w1 ⟨rfl, nq, rfl⟩)
    | (go_at_call 39; refine (has10_any _ _ _ A _ rfl (hA.fr ((Fr.refl No w).alloc _) (fun _ _ _ _ _ _ x => x)) hl).mono ?_; rintro e w1 ⟨rfl, rfl⟩))
  all_goals
    go_ret
    go_light
    refine ⟨?_, ?_⟩
    · simp [rowR, *]
      try (intros; simp_all)
    · first | exact (Fr.refl _ _).alloc _ | exact ((Fr.refl _ _).alloc _).drewN _
set_option maxRecDepth 100000 in
theorem row_3 (n : Int) (aA aB : Option Addr) (A B : List UInt8) (cA cB : Nat) (w : World) (hA : At w aA (A.map bv)) (hl : A.length ≤ 100000000) (hl2 : B.length ≤ 100000000) :
    Calls Try.prog 27 #[.agg #[.int .i64 3, .int .i64 n, .slice aA A.length cA, .slice aB B.length cB]] w (RPost w (rowR 3 n A B)) := by
  go_enter Try.func27, Try.ntmps27
  go_wp2_with (first
    | (go_at_call 38; refine (within_any _ _ _ _).mono ?_; rintro e w1 ⟨rfl, rfl⟩)
    | (go_at_call 41; refine (one_any _ _ _ A _ rfl (hA.fr ((Fr.refl No w).alloc _) (fun _ _ _ _ _ _ x => x))).mono ?_; rintro e w1 ⟨rfl, rfl⟩)
    | (go_at_call 40; refine (unlike_any _ _ _ A _ rfl (hA.fr ((Fr.refl No w).alloc _) (fun _ _ _ _ _ _ x => x)) hl).mono ?_; rintro e w1 ⟨rfl, nq, rfl⟩)
    | (go_at_call 39; refine (has10_any _ _ _ A _ rfl (hA.fr ((Fr.refl No w).alloc _) (fun _ _ _ _ _ _ x => x)) hl).mono ?_; rintro e w1 ⟨rfl, rfl⟩))
  all_goals
    go_ret
    go_light
    refine ⟨?_, ?_⟩
    · simp [rowR, *]
      try (intros; simp_all)
    · first | exact (Fr.refl _ _).alloc _ | exact ((Fr.refl _ _).alloc _).drewN _
set_option maxRecDepth 100000 in
theorem row_4 (n : Int) (aA aB : Option Addr) (A B : List UInt8) (cA cB : Nat) (w : World) (hA : At w aA (A.map bv)) (hl : A.length ≤ 100000000) (hl2 : B.length ≤ 100000000) :
    Calls Try.prog 27 #[.agg #[.int .i64 4, .int .i64 n, .slice aA A.length cA, .slice aB B.length cB]] w (RPost w (rowR 4 n A B)) := by
  go_enter Try.func27, Try.ntmps27
  go_wp2_with (first
    | (go_at_call 38; refine (within_any _ _ _ _).mono ?_; rintro e w1 ⟨rfl, rfl⟩)
    | (go_at_call 41; refine (one_any _ _ _ A _ rfl (hA.fr ((Fr.refl No w).alloc _) (fun _ _ _ _ _ _ x => x))).mono ?_; rintro e w1 ⟨rfl, rfl⟩)
    | (go_at_call 40; refine (unlike_any _ _ _ A _ rfl (hA.fr ((Fr.refl No w).alloc _) (fun _ _ _ _ _ _ x => x)) hl).mono ?_; rintro e w1 ⟨rfl, nq, rfl⟩)
    | (go_at_call 39; refine (has10_any _ _ _ A _ rfl (hA.fr ((Fr.refl No w).alloc _) (fun _ _ _ _ _ _ x => x)) hl).mono ?_; rintro e w1 ⟨rfl, rfl⟩))
  all_goals
    go_ret
    go_light
    refine ⟨?_, ?_⟩
    · simp [rowR, *]
      try (intros; simp_all)
    · first | exact (Fr.refl _ _).alloc _ | exact ((Fr.refl _ _).alloc _).drewN _
set_option maxRecDepth 100000 in
theorem row_5 (n : Int) (aA aB : Option Addr) (A B : List UInt8) (cA cB : Nat) (w : World) (hA : At w aA (A.map bv)) (hl : A.length ≤ 100000000) (hl2 : B.length ≤ 100000000) :
    Calls Try.prog 27 #[.agg #[.int .i64 5, .int .i64 n, .slice aA A.length cA, .slice aB B.length cB]] w (RPost w (rowR 5 n A B)) := by
  go_enter Try.func27, Try.ntmps27
  go_wp2_with (first
    | (go_at_call 38; refine (within_any _ _ _ _).mono ?_; rintro e w1 ⟨rfl, rfl⟩)
    | (go_at_call 41; refine (one_any _ _ _ A _ rfl (hA.fr ((Fr.refl No w).alloc _) (fun _ _ _ _ _ _ x => x))).mono ?_; rintro e w1 ⟨rfl, rfl⟩)
    | (go_at_call 40; refine (unlike_any _ _ _ A _ rfl (hA.fr ((Fr.refl No w).alloc _) (fun _ _ _ _ _ _ x => x)) hl).mono ?_; rintro e w1 ⟨rfl, nq, rfl⟩)
    | (go_at_call 39; refine (has10_any _ _ _ A _ rfl (hA.fr ((Fr.refl No w).alloc _) (fun _ _ _ _ _ _ x => x)) hl).mono ?_; rintro e w1 ⟨rfl, rfl⟩))
  all_goals
    go_ret
    go_light
    refine ⟨?_, ?_⟩
    · simp [rowR, *]
      try (intros; simp_all)
    · first | exact (Fr.refl _ _).alloc _ | exact ((Fr.refl _ _).alloc _).drewN _
set_option maxRecDepth 100000 in
theorem row_6 (n : Int) (aA aB : Option Addr) (A B : List UInt8) (cA cB : Nat) (w : World) (hA : At w aA (A.map bv)) (hl : A.length ≤ 100000000) (hl2 : B.length ≤ 100000000) :
    Calls Try.prog 27 #[.agg #[.int .i64 6, .int .i64 n, .slice aA A.length cA, .slice aB B.length cB]] w (RPost w (rowR 6 n A B)) := by
  go_enter Try.func27, Try.ntmps27
  go_wp2_with (first
    | (go_at_call 38; refine (within_any _ _ _ _).mono ?_; rintro e w1 ⟨rfl, rfl⟩)
    | (go_at_call 41; refine (one_any _ _ _ A _ rfl (hA.fr ((Fr.refl No w).alloc _) (fun _ _ _ _ _ _ x => x))).mono ?_; rintro e w1 ⟨rfl, rfl⟩)
    | (go_at_call 40; refine (unlike_any _ _ _ A _ rfl (hA.fr ((Fr.refl No w).alloc _) (fun _ _ _ _ _ _ x => x)) hl).mono ?_; rintro e w1 ⟨rfl, nq, rfl⟩)
    | (go_at_call 39; refine (has10_any _ _ _ A _ rfl (hA.fr ((Fr.refl No w).alloc _) (fun _ _ _ _ _ _ x => x)) hl).mono ?_; rintro e w1 ⟨rfl, rfl⟩))
  all_goals
    go_ret
    go_light
    refine ⟨?_, ?_⟩
    · simp [rowR, *]
      try (intros; simp_all)
    · first | exact (Fr.refl _ _).alloc _ | exact ((Fr.refl _ _).alloc _).drewN _
set_option maxRecDepth 100000 in
theorem row_7 (n : Int) (aA aB : Option Addr) (A B : List UInt8) (cA cB : Nat) (w : World) (hA : At w aA (A.map bv)) (hl : A.length ≤ 100000000) (hl2 : B.length ≤ 100000000) :
    Calls Try.prog 27 #[.agg #[.int .i64 7, .int .i64 n, .slice aA A.length cA, .slice aB B.length cB]] w (RPost w (rowR 7 n A B)) := by
  go_enter Try.func27, Try.ntmps27
  go_wp2_with (first
    | (go_at_call 38; refine (within_any _ _ _ _).mono ?_; rintro e w1 ⟨rfl, rfl⟩)
    | (go_at_call 41; refine (one_any _ _ _ A _ rfl (hA.fr ((Fr.refl No w).alloc _) (fun _ _ _ _ _ _ x => x))).mono ?_; rintro e w1 ⟨rfl, rfl⟩)
    | (go_at_call 40; refine (unlike_any _ _ _ A _ rfl (hA.fr ((Fr.refl No w).alloc _) (fun _ _ _ _ _ _ x => x)) hl).mono ?_; rintro e w1 ⟨rfl, nq, rfl⟩)
    | (go_at_call 39; refine (has10_any _ _ _ A _ rfl (hA.fr ((Fr.refl No w).alloc _) (fun _ _ _ _ _ _ x => x)) hl).mono ?_; rintro e w1 ⟨rfl, rfl⟩))
  all_goals
    go_ret
    go_light
    refine ⟨?_, ?_⟩
    · simp [rowR, *]
      try (intros; simp_all)
    · first | exact (Fr.refl _ _).alloc _ | exact ((Fr.refl _ _).alloc _).drewN _
set_option maxRecDepth 100000 in
theorem row_8 (n : Int) (aA aB : Option Addr) (A B : List UInt8) (cA cB : Nat) (w : World) (hA : At w aA (A.map bv)) (hl : A.length ≤ 100000000) (hl2 : B.length ≤ 100000000) :
    Calls Try.prog 27 #[.agg #[.int .i64 8, .int .i64 n, .slice aA A.length cA, .slice aB B.length cB]] w (RPost w (rowR 8 n A B)) := by
  go_enter Try.func27, Try.ntmps27
  go_wp2_with (first
    | (go_at_call 38; refine (within_any _ _ _ _).mono ?_; rintro e w1 ⟨rfl, rfl⟩)
    | (go_at_call 41; refine (one_any _ _ _ A _ rfl (hA.fr ((Fr.refl No w).alloc _) (fun _ _ _ _ _ _ x => x))).mono ?_; rintro e w1 ⟨rfl, rfl⟩)
    | (go_at_call 40; refine (unlike_any _ _ _ A _ rfl (hA.fr ((Fr.refl No w).alloc _) (fun _ _ _ _ _ _ x => x)) hl).mono ?_; rintro e w1 ⟨rfl, nq, rfl⟩)
    | (go_at_call 39; refine (has10_any _ _ _ A _ rfl (hA.fr ((Fr.refl No w).alloc _) (fun _ _ _ _ _ _ x => x)) hl).mono ?_; rintro e w1 ⟨rfl, rfl⟩))
  all_goals
    go_ret
    go_light
    refine ⟨?_, ?_⟩
    · simp [rowR, *]
      try (intros; simp_all)
    · first | exact (Fr.refl _ _).alloc _ | exact ((Fr.refl _ _).alloc _).drewN _
set_option maxRecDepth 100000 in
theorem row_9 (n : Int) (aA aB : Option Addr) (A B : List UInt8) (cA cB : Nat) (w : World) (hA : At w aA (A.map bv)) (hl : A.length ≤ 100000000) (hl2 : B.length ≤ 100000000) :
    Calls Try.prog 27 #[.agg #[.int .i64 9, .int .i64 n, .slice aA A.length cA, .slice aB B.length cB]] w (RPost w (rowR 9 n A B)) := by
  go_enter Try.func27, Try.ntmps27
  go_wp2_with (first
    | (go_at_call 38; refine (within_any _ _ _ _).mono ?_; rintro e w1 ⟨rfl, rfl⟩)
    | (go_at_call 41; refine (one_any _ _ _ A _ rfl (hA.fr ((Fr.refl No w).alloc _) (fun _ _ _ _ _ _ x => x))).mono ?_; rintro e w1 ⟨rfl, rfl⟩)
    | (go_at_call 40; refine (unlike_any _ _ _ A _ rfl (hA.fr ((Fr.refl No w).alloc _) (fun _ _ _ _ _ _ x => x)) hl).mono ?_; rintro e w1 ⟨rfl, nq, rfl⟩)
    | (go_at_call 39; refine (has10_any _ _ _ A _ rfl (hA.fr ((Fr.refl No w).alloc _) (fun _ _ _ _ _ _ x => x)) hl).mono ?_; rintro e w1 ⟨rfl, rfl⟩))
  all_goals
    go_ret
    go_light
    refine ⟨?_, ?_⟩
    · simp [rowR, *]
      try (intros; simp_all)
    · first | exact (Fr.refl _ _).alloc _ | exact ((Fr.refl _ _).alloc _).drewN _
set_option maxRecDepth 100000 in
theorem row_10 (n : Int) (aA aB : Option Addr) (A B : List UInt8) (cA cB : Nat) (w : World) (hA : At w aA (A.map bv)) (hl : A.length ≤ 100000000) (hl2 : B.length ≤ 100000000) :
    Calls Try.prog 27 #[.agg #[.int .i64 10, .int .i64 n, .slice aA A.length cA, .slice aB B.length cB]] w (RPost w (rowR 10 n A B)) := by
  go_enter Try.func27, Try.ntmps27
  go_wp2_with (first
    | (go_at_call 38; refine (within_any _ _ _ _).mono ?_; rintro e w1 ⟨rfl, rfl⟩)
    | (go_at_call 41; refine (one_any _ _ _ A _ rfl (hA.fr ((Fr.refl No w).alloc _) (fun _ _ _ _ _ _ x => x))).mono ?_; rintro e w1 ⟨rfl, rfl⟩)
    | (go_at_call 40; refine (unlike_any _ _ _ A _ rfl (hA.fr ((Fr.refl No w).alloc _) (fun _ _ _ _ _ _ x => x)) hl).mono ?_; rintro e w1 ⟨rfl, nq, rfl⟩)
    | (go_at_call 39; refine (has10_any _ _ _ A _ rfl (hA.fr ((Fr.refl No w).alloc _) (fun _ _ _ _ _ _ x => x)) hl).mono ?_; rintro e w1 ⟨rfl, rfl⟩))
  all_goals
    go_ret
    go_light
    refine ⟨?_, ?_⟩
    · simp [rowR, *]
      try (intros; simp_all)
    · first | exact (Fr.refl _ _).alloc _ | exact ((Fr.refl _ _).alloc _).drewN _
set_option maxRecDepth 100000 in
theorem row_11 (n : Int) (aA aB : Option Addr) (A B : List UInt8) (cA cB : Nat) (w : World) (hA : At w aA (A.map bv)) (hl : A.length ≤ 100000000) (hl2 : B.length ≤ 100000000) :
    Calls Try.prog 27 #[.agg #[.int .i64 11, .int .i64 n, .slice aA A.length cA, .slice aB B.length cB]] w (RPost w (rowR 11 n A B)) := by
  go_enter Try.func27, Try.ntmps27
  go_wp2_with (first
    | (go_at_call 38; refine (within_any _ _ _ _).mono ?_; rintro e w1 ⟨rfl, rfl⟩)
    | (go_at_call 41; refine (one_any _ _ _ A _ rfl (hA.fr ((Fr.refl No w).alloc _) (fun _ _ _ _ _ _ x => x))).mono ?_; rintro e w1 ⟨rfl, rfl⟩)
    | (go_at_call 40; refine (unlike_any _ _ _ A _ rfl (hA.fr ((Fr.refl No w).alloc _) (fun _ _ _ _ _ _ x => x)) hl).mono ?_; rintro e w1 ⟨rfl, nq, rfl⟩)
    | (go_at_call 39; refine (has10_any _ _ _ A _ rfl (hA.fr ((Fr.refl No w).alloc _) (fun _ _ _ _ _ _ x => x)) hl).mono ?_; rintro e w1 ⟨rfl, rfl⟩))
  all_goals
    go_ret
    go_light
    refine ⟨?_, ?_⟩
    · simp [rowR, *]
      try (intros; simp_all)
    · first | exact (Fr.refl _ _).alloc _ | exact ((Fr.refl _ _).alloc _).drewN _
set_option maxRecDepth 100000 in
theorem row_12 (n : Int) (aA aB : Option Addr) (A B : List UInt8) (cA cB : Nat) (w : World) (hA : At w aA (A.map bv)) (hl : A.length ≤ 100000000) (hl2 : B.length ≤ 100000000) :
    Calls Try.prog 27 #[.agg #[.int .i64 12, .int .i64 n, .slice aA A.length cA, .slice aB B.length cB]] w (RPost w (rowR 12 n A B)) := by
  go_enter Try.func27, Try.ntmps27
  go_wp2_with (first
    | (go_at_call 38; refine (within_any _ _ _ _).mono ?_; rintro e w1 ⟨rfl, rfl⟩)
    | (go_at_call 41; refine (one_any _ _ _ A _ rfl (hA.fr ((Fr.refl No w).alloc _) (fun _ _ _ _ _ _ x => x))).mono ?_; rintro e w1 ⟨rfl, rfl⟩)
    | (go_at_call 40; refine (unlike_any _ _ _ A _ rfl (hA.fr ((Fr.refl No w).alloc _) (fun _ _ _ _ _ _ x => x)) hl).mono ?_; rintro e w1 ⟨rfl, nq, rfl⟩)
    | (go_at_call 39; refine (has10_any _ _ _ A _ rfl (hA.fr ((Fr.refl No w).alloc _) (fun _ _ _ _ _ _ x => x)) hl).mono ?_; rintro e w1 ⟨rfl, rfl⟩))
  all_goals
    go_ret
    go_light
    refine ⟨?_, ?_⟩
    · simp [rowR, *]
      try (intros; simp_all)
    · first | exact (Fr.refl _ _).alloc _ | exact ((Fr.refl _ _).alloc _).drewN _
set_option maxRecDepth 100000 in
theorem row_13 (n : Int) (aA aB : Option Addr) (A B : List UInt8) (cA cB : Nat) (w : World) (hA : At w aA (A.map bv)) (hl : A.length ≤ 100000000) (hl2 : B.length ≤ 100000000) :
    Calls Try.prog 27 #[.agg #[.int .i64 13, .int .i64 n, .slice aA A.length cA, .slice aB B.length cB]] w (RPost w (rowR 13 n A B)) := by
  go_enter Try.func27, Try.ntmps27
  go_wp2_with (first
    | (go_at_call 38; refine (within_any _ _ _ _).mono ?_; rintro e w1 ⟨rfl, rfl⟩)
    | (go_at_call 41; refine (one_any _ _ _ A _ rfl (hA.fr ((Fr.refl No w).alloc _) (fun _ _ _ _ _ _ x => x))).mono ?_; rintro e w1 ⟨rfl, rfl⟩)
    | (go_at_call 40; refine (unlike_any _ _ _ A _ rfl (hA.fr ((Fr.refl No w).alloc _) (fun _ _ _ _ _ _ x => x)) hl).mono ?_; rintro e w1 ⟨rfl, nq, rfl⟩)
    | (go_at_call 39; refine (has10_any _ _ _ A _ rfl (hA.fr ((Fr.refl No w).alloc _) (fun _ _ _ _ _ _ x => x)) hl).mono ?_; rintro e w1 ⟨rfl, rfl⟩))
  all_goals
    go_ret
    go_light
    refine ⟨?_, ?_⟩
    · simp [rowR, *]
      try (intros; simp_all)
    · first | exact (Fr.refl _ _).alloc _ | exact ((Fr.refl _ _).alloc _).drewN _
set_option maxRecDepth 100000 in
theorem row_14 (n : Int) (aA aB : Option Addr) (A B : List UInt8) (cA cB : Nat) (w : World) (hA : At w aA (A.map bv)) (hl : A.length ≤ 100000000) (hl2 : B.length ≤ 100000000) :
    Calls Try.prog 27 #[.agg #[.int .i64 14, .int .i64 n, .slice aA A.length cA, .slice aB B.length cB]] w (RPost w (rowR 14 n A B)) := by
  go_enter Try.func27, Try.ntmps27
  go_wp2_with (first
    | (go_at_call 38; refine (within_any _ _ _ _).mono ?_; rintro e w1 ⟨rfl, rfl⟩)
    | (go_at_call 41; refine (one_any _ _ _ A _ rfl (hA.fr ((Fr.refl No w).alloc _) (fun _ _ _ _ _ _ x => x))).mono ?_; rintro e w1 ⟨rfl, rfl⟩)
    | (go_at_call 40; refine (unlike_any _ _ _ A _ rfl (hA.fr ((Fr.refl No w).alloc _) (fun _ _ _ _ _ _ x => x)) hl).mono ?_; rintro e w1 ⟨rfl, nq, rfl⟩)
    | (go_at_call 39; refine (has10_any _ _ _ A _ rfl (hA.fr ((Fr.refl No w).alloc _) (fun _ _ _ _ _ _ x => x)) hl).mono ?_; rintro e w1 ⟨rfl, rfl⟩))
  all_goals
    go_ret
    go_light
    refine ⟨?_, ?_⟩
    · simp [rowR, *]
      try (intros; simp_all)
    · first | exact (Fr.refl _ _).alloc _ | exact ((Fr.refl _ _).alloc _).drewN _
set_option maxRecDepth 100000 in
theorem row_15 (n : Int) (aA aB : Option Addr) (A B : List UInt8) (cA cB : Nat) (w : World) (hA : At w aA (A.map bv)) (hl : A.length ≤ 100000000) (hl2 : B.length ≤ 100000000) :
    Calls Try.prog 27 #[.agg #[.int .i64 15, .int .i64 n, .slice aA A.length cA, .slice aB B.length cB]] w (RPost w (rowR 15 n A B)) := by
  go_enter Try.func27, Try.ntmps27
  go_wp2_with (first
    | (go_at_call 38; refine (within_any _ _ _ _).mono ?_; rintro e w1 ⟨rfl, rfl⟩)
    | (go_at_call 41; refine (one_any _ _ _ A _ rfl (hA.fr ((Fr.refl No w).alloc _) (fun _ _ _ _ _ _ x => x))).mono ?_; rintro e w1 ⟨rfl, rfl⟩)
    | (go_at_call 40; refine (unlike_any _ _ _ A _ rfl (hA.fr ((Fr.refl No w).alloc _) (fun _ _ _ _ _ _ x => x)) hl).mono ?_; rintro e w1 ⟨rfl, nq, rfl⟩)
    | (go_at_call 39; refine (has10_any _ _ _ A _ rfl (hA.fr ((Fr.refl No w).alloc _) (fun _ _ _ _ _ _ x => x)) hl).mono ?_; rintro e w1 ⟨rfl, rfl⟩))
  all_goals
    go_ret
    go_light
    refine ⟨?_, ?_⟩
    · simp [rowR, *]
      try (intros; simp_all)
    · first | exact (Fr.refl _ _).alloc _ | exact ((Fr.refl _ _).alloc _).drewN _
set_option maxRecDepth 100000 in
theorem row_16 (n : Int) (aA aB : Option Addr) (A B : List UInt8) (cA cB : Nat) (w : World) (hA : At w aA (A.map bv)) (hl : A.length ≤ 100000000) (hl2 : B.length ≤ 100000000) :
    Calls Try.prog 27 #[.agg #[.int .i64 16, .int .i64 n, .slice aA A.length cA, .slice aB B.length cB]] w (RPost w (rowR 16 n A B)) := by
  go_enter Try.func27, Try.ntmps27
  go_wp2_with (first
    | (go_at_call 38; refine (within_any _ _ _ _).mono ?_; rintro e w1 ⟨rfl, rfl⟩)
    | (go_at_call 41; refine (one_any _ _ _ A _ rfl (hA.fr ((Fr.refl No w).alloc _) (fun _ _ _ _ _ _ x => x))).mono ?_; rintro e w1 ⟨rfl, rfl⟩)
    | (go_at_call 40; refine (unlike_any _ _ _ A _ rfl (hA.fr ((Fr.refl No w).alloc _) (fun _ _ _ _ _ _ x => x)) hl).mono ?_; rintro e w1 ⟨rfl, nq, rfl⟩)
    | (go_at_call 39; refine (has10_any _ _ _ A _ rfl (hA.fr ((Fr.refl No w).alloc _) (fun _ _ _ _ _ _ x => x)) hl).mono ?_; rintro e w1 ⟨rfl, rfl⟩))
  all_goals
    go_ret
    go_light
    refine ⟨?_, ?_⟩
    · simp [rowR, *]
      try (intros; simp_all)
    · first | exact (Fr.refl _ _).alloc _ | exact ((Fr.refl _ _).alloc _).drewN _
theorem row_any (k n : Int) (aA aB : Option Addr) (A B : List UInt8) (cA cB : Nat) (w : World) (hk : ¬ (k < 1 ∨ 16 < k)) (hA : At w aA (A.map bv)) (hl : A.length ≤ 100000000) (hl2 : B.length ≤ 100000000) :
    Calls Try.prog 27 #[.agg #[.int .i64 k, .int .i64 n, .slice aA A.length cA, .slice aB B.length cB]] w (RPost w (rowR k n A B)) := by
  rcases kinds k hk with rfl | rfl | rfl | rfl | rfl | rfl | rfl | rfl | rfl | rfl | rfl | rfl | rfl | rfl | rfl | rfl
  · exact row_1 n aA aB A B cA cB w hA hl hl2
  · exact row_2 n aA aB A B cA cB w hA hl hl2
  · exact row_3 n aA aB A B cA cB w hA hl hl2
  · exact row_4 n aA aB A B cA cB w hA hl hl2
  · exact row_5 n aA aB A B cA cB w hA hl hl2
  · exact row_6 n aA aB A B cA cB w hA hl hl2
  · exact row_7 n aA aB A B cA cB w hA hl hl2
  · exact row_8 n aA aB A B cA cB w hA hl hl2
  · exact row_9 n aA aB A B cA cB w hA hl hl2
  · exact row_10 n aA aB A B cA cB w hA hl hl2
  · exact row_11 n aA aB A B cA cB w hA hl hl2
  · exact row_12 n aA aB A B cA cB w hA hl hl2
  · exact row_13 n aA aB A B cA cB w hA hl hl2
  · exact row_14 n aA aB A B cA cB w hA hl hl2
  · exact row_15 n aA aB A B cA cB w hA hl hl2
  · exact row_16 n aA aB A B cA cB w hA hl hl2
end Go.Proofs.Ytppgojcfgdooiaa
