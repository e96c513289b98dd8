/- The document's helpers for parameters: within, has, unlike, one. -/
import Derived.Test.YtljldkknopmfhaaParM
import Derived.Test.YtljldkknopmfhaaRows
import Derived.BigGuardPart
import Derived.Deep.Light
import Derived.OwnWalk
namespace Go.Proofs.Ytljldkknopmfhaa
open Go.RowKit

def BPost' (w : World) (b : Bool) (e : Ending) (w' : World) : Prop := e = .returned (.bool b) ∧ w = w'
set_option maxRecDepth 100000 in
theorem within_any (n a b : Int) (w : World) : Calls Try.prog 86 #[.int .i64 n, .int .i64 a, .int .i64 b] w (BPost' w (withinB n a b)) := by
  by_cases h1 : a ≤ n
  · by_cases h2 : n ≤ b
    · have hb : withinB n a b = true := by simp [withinB, h1, h2]
      rw [hb]; clear hb
      go_enter Try.func86, Try.ntmps86
      go_wp2
      go_ret
      exact ⟨rfl, rfl⟩
    · have hb : withinB n a b = false := by simp [withinB, h2]
      rw [hb]; clear hb
      go_enter Try.func86, Try.ntmps86
      go_wp2
      go_ret
      exact ⟨rfl, rfl⟩
  · have hb : withinB n a b = false := by simp [withinB, h1]
    rw [hb]; clear hb
    go_enter Try.func86, Try.ntmps86
    go_wp2
    go_ret
    exact ⟨rfl, rfl⟩

set_option maxRecDepth 100000 in
theorem has_any (a : Option Addr) (n c : Nat) (bs : List UInt8) (x : UInt8) (w : World) (hn : n = bs.length) (ha : At w a (bs.map bv)) (hl : bs.length ≤ 100000000) :
    Calls Try.prog 87 #[.slice a n c, .int .u8 x.toNat] w (BPost' w (hasB bs x)) := by
  subst hn
  have hli : (bs.length : Int) ≤ 100000000 := by omega
  go_enter Try.func87, Try.ntmps87
  go_wp2
  go_loop [5] (fun i => ∃ k : Nat, k ≤ bs.length ∧ i = .int .i64 k ∧ Hid (x ∉ bs.take k)) (fun i => bs.length - (intOf i).toNat)
  case atStart => exact ⟨0, Nat.zero_le _, rfl, Lib.hid (by simp)⟩
  case round =>
    obtain ⟨k, hk, rfl, HN⟩ := hrel
    by_cases hlt : k < bs.length
    · obtain ⟨g, off, rfl, hrow⟩ := ha (by simp; omega)
      have hcell : w.cell? ⟨g, off + k, none⟩ = some (.int .u8 bs[k].toNat) := hrow.get k (bv bs[k]) (by simp [hlt])
      have ht : bs.take (k + 1) = bs.take k ++ [bs[k]] := List.take_succ_eq_append_getElem hlt
      have hb : bs[k] ∈ bs := List.getElem_mem _
      generalize bs[k] = y at *
      have HT := Lib.hid ht; clear ht
      have HB := Lib.hid hb; clear hb
      have hki : (k : Int) < bs.length := by omega
      by_cases hx : y = x
      · subst hx
        have e1 : hasB bs y = true := by unfold hasB; simp [HB.out]
        have E1 := Lib.hid e1; clear e1
        go_wp2
        go_ret
        rw [E1.out]
        exact ⟨rfl, rfl⟩
      · have hx1 : ((y.toNat : Int) == x.toNat) = false := by
          simp only [beq_eq_false_iff_ne]
          intro e; apply hx; exact UInt8.toNat.inj (by omega)
        have hx2 : (y.toNat == x.toNat) = false := by
          simp only [beq_eq_false_iff_ne]
          intro e; apply hx; exact UInt8.toNat.inj (by omega)
        have HX := Lib.hid hx; clear hx
        go_wp2
        go_round
        case rel => exact ⟨k + 1, by omega, by go_num, Lib.hid (by rw [HT.out]; simp; exact ⟨HN.out, fun e => HX.out e.symm⟩)⟩
        case measure => simp [intOf]; omega
    · obtain rfl : k = bs.length := by omega
      have e1 : hasB bs x = false := by
        have := HN.out
        rw [List.take_length] at this
        unfold hasB; simp [this]
      have E1 := Lib.hid e1; clear e1
      go_wp2
      go_ret
      rw [E1.out]
      exact ⟨rfl, rfl⟩
theorem has10_any (a : Option Addr) (n c : Nat) (bs : List UInt8) (w : World) (hn : n = bs.length) (ha : At w a (bs.map bv)) (hl : bs.length ≤ 100000000) :
    Calls Try.prog 87 #[.slice a n c, .int .u8 10] w (BPost' w (hasB bs 10)) := has_any a n c bs 10 w hn ha hl

def DPost (w : World) (b : Bool) (e : Ending) (w' : World) : Prop := e = .returned (.bool b) ∧ ∃ q, w' = w.drewN q
theorem nodup_snoc (l : List UInt8) (x : UInt8) : (l ++ [x]).Nodup ↔ l.Nodup ∧ x ∉ l := by
  rw [List.nodup_append]
  simp
  intro _
  exact ⟨fun h hm => h x hm rfl, fun h a ha e => h (e ▸ ha)⟩
set_option maxHeartbeats 1000000 in
set_option maxRecDepth 100000 in
theorem unlike_any (a : Option Addr) (n c : Nat) (bs : List UInt8) (w : World) (hn : n = bs.length) (ha : At w a (bs.map bv)) (hl : bs.length ≤ 100000000) :
    Calls Try.prog 88 #[.slice a n c] w (DPost w (unlikeB bs)) := by
  subst hn
  have hli : (bs.length : Int) ≤ 100000000 := by omega
  go_enter Try.func88, Try.ntmps88
  go_wp2
  go_loopw [3] (fun i wr => ∃ k : Nat, k ≤ bs.length ∧ i = .int .i64 k ∧ Hid ((bs.take k).Nodup) ∧ ∃ q, wr = w.drewN q) (fun i _ => bs.length - (intOf i).toNat)
  case atStart => exact ⟨0, Nat.zero_le _, rfl, Lib.hid (by simp), 0, rfl⟩
  case round =>
    obtain ⟨k, hk, rfl, HN, q, rfl⟩ := hrel
    by_cases hlt : k < bs.length
    · obtain ⟨g, off, rfl, hrow⟩ := ha (by simp; omega)
      have ht : bs.take (k + 1) = bs.take k ++ [bs[k]] := List.take_succ_eq_append_getElem hlt
      have HT := Lib.hid ht; clear ht
      have hki : (k : Int) < bs.length := by omega
      go_wp2
      go_loopw [4] (fun j wr => ∃ m : Nat, m ≤ k ∧ j = .int .i64 m ∧ Hid (bs[k] ∉ bs.take m) ∧ ∃ q, wr = w.drewN q) (fun j _ => k - (intOf j).toNat)
      case atStart => exact ⟨0, Nat.zero_le _, rfl, Lib.hid (by simp), q, rfl⟩
      case round =>
        obtain ⟨m, hm, rfl, HM, q2, rfl⟩ := hrel
        by_cases hlm : m < k
        · have hml : m < bs.length := by omega
          have c1 : w.cell? ⟨g, off + m, none⟩ = some (.int .u8 bs[m].toNat) := hrow.get m (bv bs[m]) (by simp [hml])
          have c2 : w.cell? ⟨g, off + k, none⟩ = some (.int .u8 bs[k].toNat) := hrow.get k (bv bs[k]) (by simp [hlt])
          have htm : bs.take (m + 1) = bs.take m ++ [bs[m]] := List.take_succ_eq_append_getElem hml
          have hmi : (m : Int) < k := by omega
          have hmi2 : (m : Int) < bs.length := by omega
          have hdup : bs[m] = bs[k] → unlikeB bs = false := by
            intro e
            unfold unlikeB
            simp only [decide_eq_false_iff_not]
            intro hd
            exact (List.pairwise_iff_getElem.1 hd) m k hml hlt hlm e
          have HD := Lib.hid hdup; clear hdup
          have HTM := Lib.hid htm; clear htm
          generalize bs[m] = y at *
          generalize bs[k] = x at *
          by_cases hx : y = x
          · subst hx
            have E1 := Lib.hid (HD.out rfl)
            go_wp2_with fail
            go_quiet (fail)
            go_wp2
            go_ret
            rw [E1.out]
            exact ⟨rfl, q2 + nq, by simp⟩
          · have hx1 : ((y.toNat : Int) == x.toNat) = false := by
              simp only [beq_eq_false_iff_ne]
              intro e; apply hx; exact UInt8.toNat.inj (by omega)
            have hx2 : (y.toNat == x.toNat) = false := by
              simp only [beq_eq_false_iff_ne]
              intro e; apply hx; exact UInt8.toNat.inj (by omega)
            have HX := Lib.hid hx; clear hx
            go_wp2_with fail
            go_quiet (fail)
            go_wp2
            go_roundw
            case rel => exact ⟨m + 1, by omega, by go_num, Lib.hid (by rw [HTM.out]; simp; exact ⟨HM.out, fun e => HX.out e.symm⟩), q2 + nq, by simp⟩
            case measure => simp [intOf]; omega
        · obtain rfl : m = k := by omega
          go_wp2
          go_roundw
          case rel => exact ⟨m + 1, by omega, by go_num, Lib.hid (by rw [HT.out, nodup_snoc]; exact ⟨HN.out, HM.out⟩), q2, rfl⟩
          case measure => simp [intOf]; omega
    · obtain rfl : k = bs.length := by omega
      have e1 : unlikeB bs = true := by
        have := HN.out
        rw [List.take_length] at this
        unfold unlikeB; simp [this]
      have E1 := Lib.hid e1; clear e1
      go_wp2
      go_ret
      rw [E1.out]
      exact ⟨rfl, q, rfl⟩

set_option maxRecDepth 100000 in
theorem one_any (a : Option Addr) (n c : Nat) (bs : List UInt8) (w : World) (hn : n = bs.length) (ha : At w a (bs.map bv)) :
    Calls Try.prog 89 #[.slice a n c] w (BPost' w (oneB bs)) := by
  subst hn
  by_cases h1 : bs.length = 1
  · obtain ⟨x, rfl⟩ := List.length_eq_one_iff.1 h1
    obtain ⟨g, off, rfl, hrow⟩ := ha (by simp)
    have hc : w.cell? ⟨g, off + 0, none⟩ = some (.int .u8 x.toNat) := hrow.get 0 (bv x) rfl
    simp only [Nat.add_zero] at hc
    clear h1 hrow
    by_cases hx : x = 10
    · have hb : oneB [x] = false := by simp [oneB, hx]
      rw [hb]
      subst hx
      replace hc : w.cell? ⟨g, off + 0, none⟩ = some (.int .u8 10) := hc
      simp only [Nat.add_zero] at hc
      simp only [List.length_cons, List.length_nil, Nat.zero_add]
      clear hb ha
      go_enter Try.func89, Try.ntmps89
      go_wp2
      go_ret
      exact ⟨rfl, rfl⟩
    · have hx1 : ((x.toNat : Int) != 10) = true := by
        simp only [bne_iff_ne, ne_eq]; intro e; apply hx; apply UInt8.toNat.inj; show x.toNat = 10; omega
      have hx2 : (x.toNat != 10) = true := by
        simp only [bne_iff_ne, ne_eq]; intro e; apply hx; apply UInt8.toNat.inj; exact e
      have hx3 : ((x.toNat : Int) == 10) = false := by simpa using hx1
      have hb : oneB [x] = true := by simp [oneB, hx]
      rw [hb]
      simp only [List.length_cons, List.length_nil, Nat.zero_add]
      have HX := Lib.hid hx
      clear hb ha hx
      go_enter Try.func89, Try.ntmps89
      go_wp2
      go_ret
      exact ⟨rfl, rfl⟩
  · have hb : oneB bs = false := by simp [oneB, h1]
    rw [hb]
    have h3 : ((bs.length : Int) == 1) = false := by simp only [beq_eq_false_iff_ne]; omega
    clear hb h1 ha
    go_enter Try.func89, Try.ntmps89
    go_wp2
    go_ret
    exact ⟨rfl, rfl⟩
end Go.Proofs.Ytljldkknopmfhaa

/- The document's row of a kind. -/
namespace Go.Proofs.Ytljldkknopmfhaa
open Go.RowKit

def RPost (w : World) (b : Bool) (e : Ending) (w' : World) : Prop := e = .returned (.bool b) ∧ Fr No w w'
set_option maxRecDepth 100000 in
theorem row_1 (n : Int) (aA aB : Option Addr) (A B : List UInt8) (cA cB : Nat) (w : World) (_hA : At w aA (A.map bv)) (_hl : A.length ≤ 100000000) (_hl2 : B.length ≤ 100000000) :
    Calls Try.prog 60 #[.agg #[.int .i64 1, .int .i64 n, .slice aA A.length cA, .slice aB B.length cB]] w (RPost w (rowR 1 n A B)) := by
  go_enter Try.func60, Try.ntmps60
  go_wp2_with (first
    | (go_at_call 86; refine (within_any _ _ _ _).mono ?_; rintro e w1 ⟨rfl, rfl⟩)
    | (go_at_call 89; refine (one_any _ _ _ A _ rfl (hA.fr ((Fr.refl No w).alloc _) (fun _ _ _ _ _ _ x => x))).mono ?_; rintro e w1 ⟨rfl, rfl⟩)
    | (go_at_call 88; refine (unlike_any _ _ _ A _ rfl (hA.fr ((Fr.refl No w).alloc _) (fun _ _ _ _ _ _ x => x)) hl).mono ?_; rintro e w1 ⟨rfl, nq, rfl⟩)
    | (go_at_call 87; refine (has10_any _ _ _ A _ rfl (hA.fr ((Fr.refl No w).alloc _) (fun _ _ _ _ _ _ x => x)) hl).mono ?_; rintro e w1 ⟨rfl, rfl⟩))
  all_goals
    go_ret
    go_light
    refine ⟨?_, ?_⟩
    · simp [rowR, *]
      try (intros; simp_all)
    · first | exact (Fr.refl _ _).alloc _ | exact ((Fr.refl _ _).alloc _).drewN _
set_option maxRecDepth 100000 in
theorem row_2 (n : Int) (aA aB : Option Addr) (A B : List UInt8) (cA cB : Nat) (w : World) (_hA : At w aA (A.map bv)) (_hl : A.length ≤ 100000000) (_hl2 : B.length ≤ 100000000) :
    Calls Try.prog 60 #[.agg #[.int .i64 2, .int .i64 n, .slice aA A.length cA, .slice aB B.length cB]] w (RPost w (rowR 2 n A B)) := by
  go_enter Try.func60, Try.ntmps60
  go_wp2_with (first
    | (go_at_call 86; refine (within_any _ _ _ _).mono ?_; rintro e w1 ⟨rfl, rfl⟩)
    | (go_at_call 89; refine (one_any _ _ _ A _ rfl (hA.fr ((Fr.refl No w).alloc _) (fun _ _ _ _ _ _ x => x))).mono ?_; rintro e w1 ⟨rfl, rfl⟩)
    | (go_at_call 88; refine (unlike_any _ _ _ A _ rfl (hA.fr ((Fr.refl No w).alloc _) (fun _ _ _ _ _ _ x => x)) hl).mono ?_; rintro e w1 ⟨rfl, nq, rfl⟩)
    | (go_at_call 87; refine (has10_any _ _ _ A _ rfl (hA.fr ((Fr.refl No w).alloc _) (fun _ _ _ _ _ _ x => x)) hl).mono ?_; rintro e w1 ⟨rfl, rfl⟩))
  all_goals
    go_ret
    go_light
    refine ⟨?_, ?_⟩
    · simp [rowR, *]
      try (intros; simp_all)
    · first | exact (Fr.refl _ _).alloc _ | exact ((Fr.refl _ _).alloc _).drewN _
set_option maxRecDepth 100000 in
theorem row_3 (n : Int) (aA aB : Option Addr) (A B : List UInt8) (cA cB : Nat) (w : World) (_hA : At w aA (A.map bv)) (_hl : A.length ≤ 100000000) (_hl2 : B.length ≤ 100000000) :
    Calls Try.prog 60 #[.agg #[.int .i64 3, .int .i64 n, .slice aA A.length cA, .slice aB B.length cB]] w (RPost w (rowR 3 n A B)) := by
  go_enter Try.func60, Try.ntmps60
  go_wp2_with (first
    | (go_at_call 86; refine (within_any _ _ _ _).mono ?_; rintro e w1 ⟨rfl, rfl⟩)
    | (go_at_call 89; refine (one_any _ _ _ A _ rfl (hA.fr ((Fr.refl No w).alloc _) (fun _ _ _ _ _ _ x => x))).mono ?_; rintro e w1 ⟨rfl, rfl⟩)
    | (go_at_call 88; refine (unlike_any _ _ _ A _ rfl (hA.fr ((Fr.refl No w).alloc _) (fun _ _ _ _ _ _ x => x)) hl).mono ?_; rintro e w1 ⟨rfl, nq, rfl⟩)
    | (go_at_call 87; refine (has10_any _ _ _ A _ rfl (hA.fr ((Fr.refl No w).alloc _) (fun _ _ _ _ _ _ x => x)) hl).mono ?_; rintro e w1 ⟨rfl, rfl⟩))
  all_goals
    go_ret
    go_light
    refine ⟨?_, ?_⟩
    · simp [rowR, *]
      try (intros; simp_all)
    · first | exact (Fr.refl _ _).alloc _ | exact ((Fr.refl _ _).alloc _).drewN _
set_option maxRecDepth 100000 in
theorem row_4 (n : Int) (aA aB : Option Addr) (A B : List UInt8) (cA cB : Nat) (w : World) (_hA : At w aA (A.map bv)) (_hl : A.length ≤ 100000000) (_hl2 : B.length ≤ 100000000) :
    Calls Try.prog 60 #[.agg #[.int .i64 4, .int .i64 n, .slice aA A.length cA, .slice aB B.length cB]] w (RPost w (rowR 4 n A B)) := by
  go_enter Try.func60, Try.ntmps60
  go_wp2_with (first
    | (go_at_call 86; refine (within_any _ _ _ _).mono ?_; rintro e w1 ⟨rfl, rfl⟩)
    | (go_at_call 89; refine (one_any _ _ _ A _ rfl (hA.fr ((Fr.refl No w).alloc _) (fun _ _ _ _ _ _ x => x))).mono ?_; rintro e w1 ⟨rfl, rfl⟩)
    | (go_at_call 88; refine (unlike_any _ _ _ A _ rfl (hA.fr ((Fr.refl No w).alloc _) (fun _ _ _ _ _ _ x => x)) hl).mono ?_; rintro e w1 ⟨rfl, nq, rfl⟩)
    | (go_at_call 87; refine (has10_any _ _ _ A _ rfl (hA.fr ((Fr.refl No w).alloc _) (fun _ _ _ _ _ _ x => x)) hl).mono ?_; rintro e w1 ⟨rfl, rfl⟩))
  all_goals
    go_ret
    go_light
    refine ⟨?_, ?_⟩
    · simp [rowR, *]
      try (intros; simp_all)
    · first | exact (Fr.refl _ _).alloc _ | exact ((Fr.refl _ _).alloc _).drewN _
set_option maxRecDepth 100000 in
theorem row_5 (n : Int) (aA aB : Option Addr) (A B : List UInt8) (cA cB : Nat) (w : World) (hA : At w aA (A.map bv)) (hl : A.length ≤ 100000000) (_hl2 : B.length ≤ 100000000) :
    Calls Try.prog 60 #[.agg #[.int .i64 5, .int .i64 n, .slice aA A.length cA, .slice aB B.length cB]] w (RPost w (rowR 5 n A B)) := by
  go_enter Try.func60, Try.ntmps60
  go_wp2_with (first
    | (go_at_call 86; refine (within_any _ _ _ _).mono ?_; rintro e w1 ⟨rfl, rfl⟩)
    | (go_at_call 89; refine (one_any _ _ _ A _ rfl (hA.fr ((Fr.refl No w).alloc _) (fun _ _ _ _ _ _ x => x))).mono ?_; rintro e w1 ⟨rfl, rfl⟩)
    | (go_at_call 88; refine (unlike_any _ _ _ A _ rfl (hA.fr ((Fr.refl No w).alloc _) (fun _ _ _ _ _ _ x => x)) hl).mono ?_; rintro e w1 ⟨rfl, nq, rfl⟩)
    | (go_at_call 87; refine (has10_any _ _ _ A _ rfl (hA.fr ((Fr.refl No w).alloc _) (fun _ _ _ _ _ _ x => x)) hl).mono ?_; rintro e w1 ⟨rfl, rfl⟩))
  all_goals
    go_ret
    go_light
    refine ⟨?_, ?_⟩
    · simp [rowR, *]
      try (intros; simp_all)
    · first | exact (Fr.refl _ _).alloc _ | exact ((Fr.refl _ _).alloc _).drewN _
set_option maxRecDepth 100000 in
theorem row_6 (n : Int) (aA aB : Option Addr) (A B : List UInt8) (cA cB : Nat) (w : World) (hA : At w aA (A.map bv)) (hl : A.length ≤ 100000000) (_hl2 : B.length ≤ 100000000) :
    Calls Try.prog 60 #[.agg #[.int .i64 6, .int .i64 n, .slice aA A.length cA, .slice aB B.length cB]] w (RPost w (rowR 6 n A B)) := by
  go_enter Try.func60, Try.ntmps60
  go_wp2_with (first
    | (go_at_call 86; refine (within_any _ _ _ _).mono ?_; rintro e w1 ⟨rfl, rfl⟩)
    | (go_at_call 89; refine (one_any _ _ _ A _ rfl (hA.fr ((Fr.refl No w).alloc _) (fun _ _ _ _ _ _ x => x))).mono ?_; rintro e w1 ⟨rfl, rfl⟩)
    | (go_at_call 88; refine (unlike_any _ _ _ A _ rfl (hA.fr ((Fr.refl No w).alloc _) (fun _ _ _ _ _ _ x => x)) hl).mono ?_; rintro e w1 ⟨rfl, nq, rfl⟩)
    | (go_at_call 87; refine (has10_any _ _ _ A _ rfl (hA.fr ((Fr.refl No w).alloc _) (fun _ _ _ _ _ _ x => x)) hl).mono ?_; rintro e w1 ⟨rfl, rfl⟩))
  all_goals
    go_ret
    go_light
    refine ⟨?_, ?_⟩
    · simp [rowR, *]
      try (intros; simp_all)
    · first | exact (Fr.refl _ _).alloc _ | exact ((Fr.refl _ _).alloc _).drewN _
set_option maxRecDepth 100000 in
theorem row_7 (n : Int) (aA aB : Option Addr) (A B : List UInt8) (cA cB : Nat) (w : World) (hA : At w aA (A.map bv)) (_hl : A.length ≤ 100000000) (_hl2 : B.length ≤ 100000000) :
    Calls Try.prog 60 #[.agg #[.int .i64 7, .int .i64 n, .slice aA A.length cA, .slice aB B.length cB]] w (RPost w (rowR 7 n A B)) := by
  go_enter Try.func60, Try.ntmps60
  go_wp2_with (first
    | (go_at_call 86; refine (within_any _ _ _ _).mono ?_; rintro e w1 ⟨rfl, rfl⟩)
    | (go_at_call 89; refine (one_any _ _ _ A _ rfl (hA.fr ((Fr.refl No w).alloc _) (fun _ _ _ _ _ _ x => x))).mono ?_; rintro e w1 ⟨rfl, rfl⟩)
    | (go_at_call 88; refine (unlike_any _ _ _ A _ rfl (hA.fr ((Fr.refl No w).alloc _) (fun _ _ _ _ _ _ x => x)) hl).mono ?_; rintro e w1 ⟨rfl, nq, rfl⟩)
    | (go_at_call 87; refine (has10_any _ _ _ A _ rfl (hA.fr ((Fr.refl No w).alloc _) (fun _ _ _ _ _ _ x => x)) hl).mono ?_; rintro e w1 ⟨rfl, rfl⟩))
  all_goals
    go_ret
    go_light
    refine ⟨?_, ?_⟩
    · simp [rowR, *]
      try (intros; simp_all)
    · first | exact (Fr.refl _ _).alloc _ | exact ((Fr.refl _ _).alloc _).drewN _
set_option maxRecDepth 100000 in
theorem row_8 (n : Int) (aA aB : Option Addr) (A B : List UInt8) (cA cB : Nat) (w : World) (_hA : At w aA (A.map bv)) (_hl : A.length ≤ 100000000) (_hl2 : B.length ≤ 100000000) :
    Calls Try.prog 60 #[.agg #[.int .i64 8, .int .i64 n, .slice aA A.length cA, .slice aB B.length cB]] w (RPost w (rowR 8 n A B)) := by
  go_enter Try.func60, Try.ntmps60
  go_wp2_with (first
    | (go_at_call 86; refine (within_any _ _ _ _).mono ?_; rintro e w1 ⟨rfl, rfl⟩)
    | (go_at_call 89; refine (one_any _ _ _ A _ rfl (hA.fr ((Fr.refl No w).alloc _) (fun _ _ _ _ _ _ x => x))).mono ?_; rintro e w1 ⟨rfl, rfl⟩)
    | (go_at_call 88; refine (unlike_any _ _ _ A _ rfl (hA.fr ((Fr.refl No w).alloc _) (fun _ _ _ _ _ _ x => x)) hl).mono ?_; rintro e w1 ⟨rfl, nq, rfl⟩)
    | (go_at_call 87; refine (has10_any _ _ _ A _ rfl (hA.fr ((Fr.refl No w).alloc _) (fun _ _ _ _ _ _ x => x)) hl).mono ?_; rintro e w1 ⟨rfl, rfl⟩))
  all_goals
    go_ret
    go_light
    refine ⟨?_, ?_⟩
    · simp [rowR, *]
      try (intros; simp_all)
    · first | exact (Fr.refl _ _).alloc _ | exact ((Fr.refl _ _).alloc _).drewN _
set_option maxRecDepth 100000 in
theorem row_9 (n : Int) (aA aB : Option Addr) (A B : List UInt8) (cA cB : Nat) (w : World) (_hA : At w aA (A.map bv)) (_hl : A.length ≤ 100000000) (_hl2 : B.length ≤ 100000000) :
    Calls Try.prog 60 #[.agg #[.int .i64 9, .int .i64 n, .slice aA A.length cA, .slice aB B.length cB]] w (RPost w (rowR 9 n A B)) := by
  go_enter Try.func60, Try.ntmps60
  go_wp2_with (first
    | (go_at_call 86; refine (within_any _ _ _ _).mono ?_; rintro e w1 ⟨rfl, rfl⟩)
    | (go_at_call 89; refine (one_any _ _ _ A _ rfl (hA.fr ((Fr.refl No w).alloc _) (fun _ _ _ _ _ _ x => x))).mono ?_; rintro e w1 ⟨rfl, rfl⟩)
    | (go_at_call 88; refine (unlike_any _ _ _ A _ rfl (hA.fr ((Fr.refl No w).alloc _) (fun _ _ _ _ _ _ x => x)) hl).mono ?_; rintro e w1 ⟨rfl, nq, rfl⟩)
    | (go_at_call 87; refine (has10_any _ _ _ A _ rfl (hA.fr ((Fr.refl No w).alloc _) (fun _ _ _ _ _ _ x => x)) hl).mono ?_; rintro e w1 ⟨rfl, rfl⟩))
  all_goals
    go_ret
    go_light
    refine ⟨?_, ?_⟩
    · simp [rowR, *]
      try (intros; simp_all)
    · first | exact (Fr.refl _ _).alloc _ | exact ((Fr.refl _ _).alloc _).drewN _
set_option maxRecDepth 100000 in
theorem row_10 (n : Int) (aA aB : Option Addr) (A B : List UInt8) (cA cB : Nat) (w : World) (_hA : At w aA (A.map bv)) (_hl : A.length ≤ 100000000) (_hl2 : B.length ≤ 100000000) :
    Calls Try.prog 60 #[.agg #[.int .i64 10, .int .i64 n, .slice aA A.length cA, .slice aB B.length cB]] w (RPost w (rowR 10 n A B)) := by
  go_enter Try.func60, Try.ntmps60
  go_wp2_with (first
    | (go_at_call 86; refine (within_any _ _ _ _).mono ?_; rintro e w1 ⟨rfl, rfl⟩)
    | (go_at_call 89; refine (one_any _ _ _ A _ rfl (hA.fr ((Fr.refl No w).alloc _) (fun _ _ _ _ _ _ x => x))).mono ?_; rintro e w1 ⟨rfl, rfl⟩)
    | (go_at_call 88; refine (unlike_any _ _ _ A _ rfl (hA.fr ((Fr.refl No w).alloc _) (fun _ _ _ _ _ _ x => x)) hl).mono ?_; rintro e w1 ⟨rfl, nq, rfl⟩)
    | (go_at_call 87; refine (has10_any _ _ _ A _ rfl (hA.fr ((Fr.refl No w).alloc _) (fun _ _ _ _ _ _ x => x)) hl).mono ?_; rintro e w1 ⟨rfl, rfl⟩))
  all_goals
    go_ret
    go_light
    refine ⟨?_, ?_⟩
    · simp [rowR, *]
      try (intros; simp_all)
    · first | exact (Fr.refl _ _).alloc _ | exact ((Fr.refl _ _).alloc _).drewN _
set_option maxRecDepth 100000 in
theorem row_11 (n : Int) (aA aB : Option Addr) (A B : List UInt8) (cA cB : Nat) (w : World) (_hA : At w aA (A.map bv)) (_hl : A.length ≤ 100000000) (_hl2 : B.length ≤ 100000000) :
    Calls Try.prog 60 #[.agg #[.int .i64 11, .int .i64 n, .slice aA A.length cA, .slice aB B.length cB]] w (RPost w (rowR 11 n A B)) := by
  go_enter Try.func60, Try.ntmps60
  go_wp2_with (first
    | (go_at_call 86; refine (within_any _ _ _ _).mono ?_; rintro e w1 ⟨rfl, rfl⟩)
    | (go_at_call 89; refine (one_any _ _ _ A _ rfl (hA.fr ((Fr.refl No w).alloc _) (fun _ _ _ _ _ _ x => x))).mono ?_; rintro e w1 ⟨rfl, rfl⟩)
    | (go_at_call 88; refine (unlike_any _ _ _ A _ rfl (hA.fr ((Fr.refl No w).alloc _) (fun _ _ _ _ _ _ x => x)) hl).mono ?_; rintro e w1 ⟨rfl, nq, rfl⟩)
    | (go_at_call 87; refine (has10_any _ _ _ A _ rfl (hA.fr ((Fr.refl No w).alloc _) (fun _ _ _ _ _ _ x => x)) hl).mono ?_; rintro e w1 ⟨rfl, rfl⟩))
  all_goals
    go_ret
    go_light
    refine ⟨?_, ?_⟩
    · simp [rowR, *]
      try (intros; simp_all)
    · first | exact (Fr.refl _ _).alloc _ | exact ((Fr.refl _ _).alloc _).drewN _
set_option maxRecDepth 100000 in
theorem row_12 (n : Int) (aA aB : Option Addr) (A B : List UInt8) (cA cB : Nat) (w : World) (_hA : At w aA (A.map bv)) (_hl : A.length ≤ 100000000) (_hl2 : B.length ≤ 100000000) :
    Calls Try.prog 60 #[.agg #[.int .i64 12, .int .i64 n, .slice aA A.length cA, .slice aB B.length cB]] w (RPost w (rowR 12 n A B)) := by
  go_enter Try.func60, Try.ntmps60
  go_wp2_with (first
    | (go_at_call 86; refine (within_any _ _ _ _).mono ?_; rintro e w1 ⟨rfl, rfl⟩)
    | (go_at_call 89; refine (one_any _ _ _ A _ rfl (hA.fr ((Fr.refl No w).alloc _) (fun _ _ _ _ _ _ x => x))).mono ?_; rintro e w1 ⟨rfl, rfl⟩)
    | (go_at_call 88; refine (unlike_any _ _ _ A _ rfl (hA.fr ((Fr.refl No w).alloc _) (fun _ _ _ _ _ _ x => x)) hl).mono ?_; rintro e w1 ⟨rfl, nq, rfl⟩)
    | (go_at_call 87; refine (has10_any _ _ _ A _ rfl (hA.fr ((Fr.refl No w).alloc _) (fun _ _ _ _ _ _ x => x)) hl).mono ?_; rintro e w1 ⟨rfl, rfl⟩))
  all_goals
    go_ret
    go_light
    refine ⟨?_, ?_⟩
    · simp [rowR, *]
      try (intros; simp_all)
    · first | exact (Fr.refl _ _).alloc _ | exact ((Fr.refl _ _).alloc _).drewN _
set_option maxRecDepth 100000 in
theorem row_13 (n : Int) (aA aB : Option Addr) (A B : List UInt8) (cA cB : Nat) (w : World) (hA : At w aA (A.map bv)) (_hl : A.length ≤ 100000000) (_hl2 : B.length ≤ 100000000) :
    Calls Try.prog 60 #[.agg #[.int .i64 13, .int .i64 n, .slice aA A.length cA, .slice aB B.length cB]] w (RPost w (rowR 13 n A B)) := by
  go_enter Try.func60, Try.ntmps60
  go_wp2_with (first
    | (go_at_call 86; refine (within_any _ _ _ _).mono ?_; rintro e w1 ⟨rfl, rfl⟩)
    | (go_at_call 89; refine (one_any _ _ _ A _ rfl (hA.fr ((Fr.refl No w).alloc _) (fun _ _ _ _ _ _ x => x))).mono ?_; rintro e w1 ⟨rfl, rfl⟩)
    | (go_at_call 88; refine (unlike_any _ _ _ A _ rfl (hA.fr ((Fr.refl No w).alloc _) (fun _ _ _ _ _ _ x => x)) hl).mono ?_; rintro e w1 ⟨rfl, nq, rfl⟩)
    | (go_at_call 87; refine (has10_any _ _ _ A _ rfl (hA.fr ((Fr.refl No w).alloc _) (fun _ _ _ _ _ _ x => x)) hl).mono ?_; rintro e w1 ⟨rfl, rfl⟩))
  all_goals
    go_ret
    go_light
    refine ⟨?_, ?_⟩
    · simp [rowR, *]
      try (intros; simp_all)
    · first | exact (Fr.refl _ _).alloc _ | exact ((Fr.refl _ _).alloc _).drewN _
set_option maxRecDepth 100000 in
theorem row_14 (n : Int) (aA aB : Option Addr) (A B : List UInt8) (cA cB : Nat) (w : World) (hA : At w aA (A.map bv)) (_hl : A.length ≤ 100000000) (_hl2 : B.length ≤ 100000000) :
    Calls Try.prog 60 #[.agg #[.int .i64 14, .int .i64 n, .slice aA A.length cA, .slice aB B.length cB]] w (RPost w (rowR 14 n A B)) := by
  go_enter Try.func60, Try.ntmps60
  go_wp2_with (first
    | (go_at_call 86; refine (within_any _ _ _ _).mono ?_; rintro e w1 ⟨rfl, rfl⟩)
    | (go_at_call 89; refine (one_any _ _ _ A _ rfl (hA.fr ((Fr.refl No w).alloc _) (fun _ _ _ _ _ _ x => x))).mono ?_; rintro e w1 ⟨rfl, rfl⟩)
    | (go_at_call 88; refine (unlike_any _ _ _ A _ rfl (hA.fr ((Fr.refl No w).alloc _) (fun _ _ _ _ _ _ x => x)) hl).mono ?_; rintro e w1 ⟨rfl, nq, rfl⟩)
    | (go_at_call 87; refine (has10_any _ _ _ A _ rfl (hA.fr ((Fr.refl No w).alloc _) (fun _ _ _ _ _ _ x => x)) hl).mono ?_; rintro e w1 ⟨rfl, rfl⟩))
  all_goals
    go_ret
    go_light
    refine ⟨?_, ?_⟩
    · simp [rowR, *]
      try (intros; simp_all)
    · first | exact (Fr.refl _ _).alloc _ | exact ((Fr.refl _ _).alloc _).drewN _
set_option maxRecDepth 100000 in
theorem row_15 (n : Int) (aA aB : Option Addr) (A B : List UInt8) (cA cB : Nat) (w : World) (_hA : At w aA (A.map bv)) (_hl : A.length ≤ 100000000) (_hl2 : B.length ≤ 100000000) :
    Calls Try.prog 60 #[.agg #[.int .i64 15, .int .i64 n, .slice aA A.length cA, .slice aB B.length cB]] w (RPost w (rowR 15 n A B)) := by
  go_enter Try.func60, Try.ntmps60
  go_wp2_with (first
    | (go_at_call 86; refine (within_any _ _ _ _).mono ?_; rintro e w1 ⟨rfl, rfl⟩)
    | (go_at_call 89; refine (one_any _ _ _ A _ rfl (hA.fr ((Fr.refl No w).alloc _) (fun _ _ _ _ _ _ x => x))).mono ?_; rintro e w1 ⟨rfl, rfl⟩)
    | (go_at_call 88; refine (unlike_any _ _ _ A _ rfl (hA.fr ((Fr.refl No w).alloc _) (fun _ _ _ _ _ _ x => x)) hl).mono ?_; rintro e w1 ⟨rfl, nq, rfl⟩)
    | (go_at_call 87; refine (has10_any _ _ _ A _ rfl (hA.fr ((Fr.refl No w).alloc _) (fun _ _ _ _ _ _ x => x)) hl).mono ?_; rintro e w1 ⟨rfl, rfl⟩))
  all_goals
    go_ret
    go_light
    refine ⟨?_, ?_⟩
    · simp [rowR, *]
      try (intros; simp_all)
    · first | exact (Fr.refl _ _).alloc _ | exact ((Fr.refl _ _).alloc _).drewN _
set_option maxRecDepth 100000 in
theorem row_16 (n : Int) (aA aB : Option Addr) (A B : List UInt8) (cA cB : Nat) (w : World) (_hA : At w aA (A.map bv)) (_hl : A.length ≤ 100000000) (_hl2 : B.length ≤ 100000000) :
    Calls Try.prog 60 #[.agg #[.int .i64 16, .int .i64 n, .slice aA A.length cA, .slice aB B.length cB]] w (RPost w (rowR 16 n A B)) := by
  go_enter Try.func60, Try.ntmps60
  go_wp2_with (first
    | (go_at_call 86; refine (within_any _ _ _ _).mono ?_; rintro e w1 ⟨rfl, rfl⟩)
    | (go_at_call 89; refine (one_any _ _ _ A _ rfl (hA.fr ((Fr.refl No w).alloc _) (fun _ _ _ _ _ _ x => x))).mono ?_; rintro e w1 ⟨rfl, rfl⟩)
    | (go_at_call 88; refine (unlike_any _ _ _ A _ rfl (hA.fr ((Fr.refl No w).alloc _) (fun _ _ _ _ _ _ x => x)) hl).mono ?_; rintro e w1 ⟨rfl, nq, rfl⟩)
    | (go_at_call 87; refine (has10_any _ _ _ A _ rfl (hA.fr ((Fr.refl No w).alloc _) (fun _ _ _ _ _ _ x => x)) hl).mono ?_; rintro e w1 ⟨rfl, rfl⟩))
  all_goals
    go_ret
    go_light
    refine ⟨?_, ?_⟩
    · simp [rowR, *]
      try (intros; simp_all)
    · first | exact (Fr.refl _ _).alloc _ | exact ((Fr.refl _ _).alloc _).drewN _
theorem row_any (k n : Int) (aA aB : Option Addr) (A B : List UInt8) (cA cB : Nat) (w : World) (hk : ¬ (k < 1 ∨ 16 < k)) (hA : At w aA (A.map bv)) (hl : A.length ≤ 100000000) (hl2 : B.length ≤ 100000000) :
    Calls Try.prog 60 #[.agg #[.int .i64 k, .int .i64 n, .slice aA A.length cA, .slice aB B.length cB]] w (RPost w (rowR k n A B)) := by
  rcases kinds k hk with rfl | rfl | rfl | rfl | rfl | rfl | rfl | rfl | rfl | rfl | rfl | rfl | rfl | rfl | rfl | rfl
  · exact row_1 n aA aB A B cA cB w hA hl hl2
  · exact row_2 n aA aB A B cA cB w hA hl hl2
  · exact row_3 n aA aB A B cA cB w hA hl hl2
  · exact row_4 n aA aB A B cA cB w hA hl hl2
  · exact row_5 n aA aB A B cA cB w hA hl hl2
  · exact row_6 n aA aB A B cA cB w hA hl hl2
  · exact row_7 n aA aB A B cA cB w hA hl hl2
  · exact row_8 n aA aB A B cA cB w hA hl hl2
  · exact row_9 n aA aB A B cA cB w hA hl hl2
  · exact row_10 n aA aB A B cA cB w hA hl hl2
  · exact row_11 n aA aB A B cA cB w hA hl hl2
  · exact row_12 n aA aB A B cA cB w hA hl hl2
  · exact row_13 n aA aB A B cA cB w hA hl hl2
  · exact row_14 n aA aB A B cA cB w hA hl hl2
  · exact row_15 n aA aB A B cA cB w hA hl hl2
  · exact row_16 n aA aB A B cA cB w hA hl hl2
end Go.Proofs.Ytljldkknopmfhaa

/- The document's Check, Arity, Bound. -/
namespace Go.Proofs.Ytljldkknopmfhaa
open Go.RowKit

def IPost (w : World) (n : Int) (e : Ending) (w' : World) : Prop := e = .returned (.int .i64 n) ∧ Fr No w w'
theorem rowR_bounds (k n : Int) (A B : List UInt8) (h : rowR k n A B = true) : 0 ≤ n ∧ (k = 13 → n ≤ 4) := by
  unfold rowR withinB at h
  split at h
  · simp at h; omega
  split at h
  · simp at h; omega
  split at h
  · simp at h; omega
  split at h
  · simp at h; omega
  split at h
  · simp at h; omega
  split at h
  · simp at h; omega
  split at h
  · simp at h; omega
  split at h
  · simp at h; omega
  split at h
  · simp at h; omega
  split at h
  · simp at h; omega
  split at h
  · simp at h; omega
  simp at h
set_option maxRecDepth 100000 in
theorem holds_1 (n : Int) (vA vB : Value) (w : World) (_hn : 0 ≤ n) :
    Calls Try.prog 61 #[.agg #[.int .i64 1, .int .i64 n, vA, vB]] w (IPost w (holdsR 1 n)) := by
  by_cases h1 : 100 < n
  · have e : holdsR 1 n = 0 := by simp [holdsR]
    rw [e]; clear e
    go_enter Try.func61, Try.ntmps61
    go_wp2
    go_ret
    exact ⟨rfl, (Fr.refl _ _).alloc _⟩
  · have e : holdsR 1 n = 0 := by simp [holdsR]
    rw [e]; clear e
    go_enter Try.func61, Try.ntmps61
    go_wp2
    go_ret
    exact ⟨rfl, (Fr.refl _ _).alloc _⟩
set_option maxRecDepth 100000 in
theorem holds_2 (n : Int) (vA vB : Value) (w : World) (_hn : 0 ≤ n) :
    Calls Try.prog 61 #[.agg #[.int .i64 2, .int .i64 n, vA, vB]] w (IPost w (holdsR 2 n)) := by
  by_cases h1 : 100 < n
  · have e : holdsR 2 n = 0 := by simp [holdsR]
    rw [e]; clear e
    go_enter Try.func61, Try.ntmps61
    go_wp2
    go_ret
    exact ⟨rfl, (Fr.refl _ _).alloc _⟩
  · have e : holdsR 2 n = 0 := by simp [holdsR]
    rw [e]; clear e
    go_enter Try.func61, Try.ntmps61
    go_wp2
    go_ret
    exact ⟨rfl, (Fr.refl _ _).alloc _⟩
set_option maxRecDepth 100000 in
theorem holds_3 (n : Int) (vA vB : Value) (w : World) (_hn : 0 ≤ n) :
    Calls Try.prog 61 #[.agg #[.int .i64 3, .int .i64 n, vA, vB]] w (IPost w (holdsR 3 n)) := by
  by_cases h1 : 100 < n
  · have e : holdsR 3 n = 64 := by simp [holdsR]
    rw [e]; clear e
    go_enter Try.func61, Try.ntmps61
    go_wp2
    go_ret
    exact ⟨rfl, (Fr.refl _ _).alloc _⟩
  · have e : holdsR 3 n = 64 := by simp [holdsR]
    rw [e]; clear e
    go_enter Try.func61, Try.ntmps61
    go_wp2
    go_ret
    exact ⟨rfl, (Fr.refl _ _).alloc _⟩
set_option maxRecDepth 100000 in
theorem holds_4 (n : Int) (vA vB : Value) (w : World) (hn : 0 ≤ n) :
    Calls Try.prog 61 #[.agg #[.int .i64 4, .int .i64 n, vA, vB]] w (IPost w (holdsR 4 n)) := by
  by_cases h1 : 100 < n
  · have e : holdsR 4 n = 10000 := by simp [holdsR, h1]
    rw [e]; clear e
    go_enter Try.func61, Try.ntmps61
    go_wp2
    go_ret
    exact ⟨rfl, (Fr.refl _ _).alloc _⟩
  · have e : holdsR 4 n = 64 + 64 * n := by simp [holdsR, h1]
    rw [e]; clear e
    go_enter Try.func61, Try.ntmps61
    go_wp2
    go_ret
    exact ⟨rfl, (Fr.refl _ _).alloc _⟩
set_option maxRecDepth 100000 in
theorem holds_5 (n : Int) (vA vB : Value) (w : World) (_hn : 0 ≤ n) :
    Calls Try.prog 61 #[.agg #[.int .i64 5, .int .i64 n, vA, vB]] w (IPost w (holdsR 5 n)) := by
  by_cases h1 : 100 < n
  · have e : holdsR 5 n = 64 := by simp [holdsR]
    rw [e]; clear e
    go_enter Try.func61, Try.ntmps61
    go_wp2
    go_ret
    exact ⟨rfl, (Fr.refl _ _).alloc _⟩
  · have e : holdsR 5 n = 64 := by simp [holdsR]
    rw [e]; clear e
    go_enter Try.func61, Try.ntmps61
    go_wp2
    go_ret
    exact ⟨rfl, (Fr.refl _ _).alloc _⟩
set_option maxRecDepth 100000 in
theorem holds_6 (n : Int) (vA vB : Value) (w : World) (_hn : 0 ≤ n) :
    Calls Try.prog 61 #[.agg #[.int .i64 6, .int .i64 n, vA, vB]] w (IPost w (holdsR 6 n)) := by
  by_cases h1 : 100 < n
  · have e : holdsR 6 n = 0 := by simp [holdsR]
    rw [e]; clear e
    go_enter Try.func61, Try.ntmps61
    go_wp2
    go_ret
    exact ⟨rfl, (Fr.refl _ _).alloc _⟩
  · have e : holdsR 6 n = 0 := by simp [holdsR]
    rw [e]; clear e
    go_enter Try.func61, Try.ntmps61
    go_wp2
    go_ret
    exact ⟨rfl, (Fr.refl _ _).alloc _⟩
set_option maxRecDepth 100000 in
theorem holds_7 (n : Int) (vA vB : Value) (w : World) (_hn : 0 ≤ n) :
    Calls Try.prog 61 #[.agg #[.int .i64 7, .int .i64 n, vA, vB]] w (IPost w (holdsR 7 n)) := by
  by_cases h1 : 100 < n
  · have e : holdsR 7 n = 64 := by simp [holdsR]
    rw [e]; clear e
    go_enter Try.func61, Try.ntmps61
    go_wp2
    go_ret
    exact ⟨rfl, (Fr.refl _ _).alloc _⟩
  · have e : holdsR 7 n = 64 := by simp [holdsR]
    rw [e]; clear e
    go_enter Try.func61, Try.ntmps61
    go_wp2
    go_ret
    exact ⟨rfl, (Fr.refl _ _).alloc _⟩
set_option maxRecDepth 100000 in
theorem holds_8 (n : Int) (vA vB : Value) (w : World) (_hn : 0 ≤ n) :
    Calls Try.prog 61 #[.agg #[.int .i64 8, .int .i64 n, vA, vB]] w (IPost w (holdsR 8 n)) := by
  by_cases h1 : 100 < n
  · have e : holdsR 8 n = 128 := by simp [holdsR]
    rw [e]; clear e
    go_enter Try.func61, Try.ntmps61
    go_wp2
    go_ret
    exact ⟨rfl, (Fr.refl _ _).alloc _⟩
  · have e : holdsR 8 n = 128 := by simp [holdsR]
    rw [e]; clear e
    go_enter Try.func61, Try.ntmps61
    go_wp2
    go_ret
    exact ⟨rfl, (Fr.refl _ _).alloc _⟩
set_option maxRecDepth 100000 in
theorem holds_9 (n : Int) (vA vB : Value) (w : World) (_hn : 0 ≤ n) :
    Calls Try.prog 61 #[.agg #[.int .i64 9, .int .i64 n, vA, vB]] w (IPost w (holdsR 9 n)) := by
  by_cases h1 : 100 < n
  · have e : holdsR 9 n = 0 := by simp [holdsR]
    rw [e]; clear e
    go_enter Try.func61, Try.ntmps61
    go_wp2
    go_ret
    exact ⟨rfl, (Fr.refl _ _).alloc _⟩
  · have e : holdsR 9 n = 0 := by simp [holdsR]
    rw [e]; clear e
    go_enter Try.func61, Try.ntmps61
    go_wp2
    go_ret
    exact ⟨rfl, (Fr.refl _ _).alloc _⟩
set_option maxRecDepth 100000 in
theorem holds_10 (n : Int) (vA vB : Value) (w : World) (_hn : 0 ≤ n) :
    Calls Try.prog 61 #[.agg #[.int .i64 10, .int .i64 n, vA, vB]] w (IPost w (holdsR 10 n)) := by
  by_cases h1 : 100 < n
  · have e : holdsR 10 n = 64 := by simp [holdsR]
    rw [e]; clear e
    go_enter Try.func61, Try.ntmps61
    go_wp2
    go_ret
    exact ⟨rfl, (Fr.refl _ _).alloc _⟩
  · have e : holdsR 10 n = 64 := by simp [holdsR]
    rw [e]; clear e
    go_enter Try.func61, Try.ntmps61
    go_wp2
    go_ret
    exact ⟨rfl, (Fr.refl _ _).alloc _⟩
set_option maxRecDepth 100000 in
theorem holds_11 (n : Int) (vA vB : Value) (w : World) (_hn : 0 ≤ n) :
    Calls Try.prog 61 #[.agg #[.int .i64 11, .int .i64 n, vA, vB]] w (IPost w (holdsR 11 n)) := by
  by_cases h1 : 100 < n
  · have e : holdsR 11 n = 320 := by simp [holdsR]
    rw [e]; clear e
    go_enter Try.func61, Try.ntmps61
    go_wp2
    go_ret
    exact ⟨rfl, (Fr.refl _ _).alloc _⟩
  · have e : holdsR 11 n = 320 := by simp [holdsR]
    rw [e]; clear e
    go_enter Try.func61, Try.ntmps61
    go_wp2
    go_ret
    exact ⟨rfl, (Fr.refl _ _).alloc _⟩
set_option maxRecDepth 100000 in
theorem holds_12 (n : Int) (vA vB : Value) (w : World) (_hn : 0 ≤ n) :
    Calls Try.prog 61 #[.agg #[.int .i64 12, .int .i64 n, vA, vB]] w (IPost w (holdsR 12 n)) := by
  by_cases h1 : 100 < n
  · have e : holdsR 12 n = 0 := by simp [holdsR]
    rw [e]; clear e
    go_enter Try.func61, Try.ntmps61
    go_wp2
    go_ret
    exact ⟨rfl, (Fr.refl _ _).alloc _⟩
  · have e : holdsR 12 n = 0 := by simp [holdsR]
    rw [e]; clear e
    go_enter Try.func61, Try.ntmps61
    go_wp2
    go_ret
    exact ⟨rfl, (Fr.refl _ _).alloc _⟩
set_option maxRecDepth 100000 in
theorem holds_13 (n : Int) (vA vB : Value) (w : World) (hn : 0 ≤ n) (h13 : n ≤ 4) :
    Calls Try.prog 61 #[.agg #[.int .i64 13, .int .i64 n, vA, vB]] w (IPost w (holdsR 13 n)) := by
  by_cases h1 : 100 < n
  · omega
  · have e : holdsR 13 n = 96 * n := by simp [holdsR]
    rw [e]; clear e
    go_enter Try.func61, Try.ntmps61
    go_wp2
    go_ret
    exact ⟨rfl, (Fr.refl _ _).alloc _⟩
set_option maxRecDepth 100000 in
theorem holds_14 (n : Int) (vA vB : Value) (w : World) (hn : 0 ≤ n) :
    Calls Try.prog 61 #[.agg #[.int .i64 14, .int .i64 n, vA, vB]] w (IPost w (holdsR 14 n)) := by
  by_cases h1 : 100 < n
  · have e : holdsR 14 n = 10000 := by simp [holdsR, h1]
    rw [e]; clear e
    go_enter Try.func61, Try.ntmps61
    go_wp2
    go_ret
    exact ⟨rfl, (Fr.refl _ _).alloc _⟩
  · have e : holdsR 14 n = 2 * (64 * n + 96) := by simp [holdsR, h1]
    rw [e]; clear e
    go_enter Try.func61, Try.ntmps61
    go_wp2
    go_ret
    exact ⟨rfl, (Fr.refl _ _).alloc _⟩
set_option maxRecDepth 100000 in
theorem holds_15 (n : Int) (vA vB : Value) (w : World) (_hn : 0 ≤ n) :
    Calls Try.prog 61 #[.agg #[.int .i64 15, .int .i64 n, vA, vB]] w (IPost w (holdsR 15 n)) := by
  by_cases h1 : 100 < n
  · have e : holdsR 15 n = 0 := by simp [holdsR]
    rw [e]; clear e
    go_enter Try.func61, Try.ntmps61
    go_wp2
    go_ret
    exact ⟨rfl, (Fr.refl _ _).alloc _⟩
  · have e : holdsR 15 n = 0 := by simp [holdsR]
    rw [e]; clear e
    go_enter Try.func61, Try.ntmps61
    go_wp2
    go_ret
    exact ⟨rfl, (Fr.refl _ _).alloc _⟩
set_option maxRecDepth 100000 in
theorem holds_16 (n : Int) (vA vB : Value) (w : World) (_hn : 0 ≤ n) :
    Calls Try.prog 61 #[.agg #[.int .i64 16, .int .i64 n, vA, vB]] w (IPost w (holdsR 16 n)) := by
  by_cases h1 : 100 < n
  · have e : holdsR 16 n = 64 := by simp [holdsR]
    rw [e]; clear e
    go_enter Try.func61, Try.ntmps61
    go_wp2
    go_ret
    exact ⟨rfl, (Fr.refl _ _).alloc _⟩
  · have e : holdsR 16 n = 64 := by simp [holdsR]
    rw [e]; clear e
    go_enter Try.func61, Try.ntmps61
    go_wp2
    go_ret
    exact ⟨rfl, (Fr.refl _ _).alloc _⟩
theorem holds_any (k n : Int) (vA vB : Value) (w : World) (hk : ¬ (k < 1 ∨ 16 < k)) (hn : 0 ≤ n) (h13 : k = 13 → n ≤ 4) :
    Calls Try.prog 61 #[.agg #[.int .i64 k, .int .i64 n, vA, vB]] w (IPost w (holdsR k n)) := by
  rcases kinds k hk with rfl | rfl | rfl | rfl | rfl | rfl | rfl | rfl | rfl | rfl | rfl | rfl | rfl | rfl | rfl | rfl
  · exact holds_1 n vA vB w hn
  · exact holds_2 n vA vB w hn
  · exact holds_3 n vA vB w hn
  · exact holds_4 n vA vB w hn
  · exact holds_5 n vA vB w hn
  · exact holds_6 n vA vB w hn
  · exact holds_7 n vA vB w hn
  · exact holds_8 n vA vB w hn
  · exact holds_9 n vA vB w hn
  · exact holds_10 n vA vB w hn
  · exact holds_11 n vA vB w hn
  · exact holds_12 n vA vB w hn
  · exact holds_13 n vA vB w hn (h13 rfl)
  · exact holds_14 n vA vB w hn
  · exact holds_15 n vA vB w hn
  · exact holds_16 n vA vB w hn

set_option maxRecDepth 100000 in
theorem rcheck_any (k n : Int) (aA aB : Option Addr) (A B : List UInt8) (cA cB : Nat) (w : World) (hA : At w aA (A.map bv)) (hl : A.length ≤ 100000000) (hl2 : B.length ≤ 100000000) :
    Calls Try.prog 28 #[.agg #[.int .i64 k, .int .i64 n, .slice aA A.length cA, .slice aB B.length cB]] w (IPost w (chkR k n A B)) := by
  by_cases h1 : k < 1
  · have e : chkR k n A B = 10 := by unfold chkR; rw [if_pos (.inl h1)]
    rw [e]; clear e
    go_enter Try.func28, Try.ntmps28
    go_wp2
    go_ret
    exact ⟨rfl, (Fr.refl _ _).alloc _⟩
  by_cases h2 : 16 < k
  · have e : chkR k n A B = 10 := by unfold chkR; rw [if_pos (.inr h2)]
    rw [e]; clear e
    go_enter Try.func28, Try.ntmps28
    go_wp2
    go_ret
    exact ⟨rfl, (Fr.refl _ _).alloc _⟩
  have hk : ¬ (k < 1 ∨ 16 < k) := by omega
  have HK := Lib.hid hk
  have e0 : chkR k n A B = if rowR k n A B = false then 11 else if 2048 < holdsR k n then 12 else 0 := by unfold chkR; rw [if_neg hk]
  clear hk
  have hrow := row_any k n aA aB A B cA cB (w.alloc (.cells #[.int .i64 k, .int .i64 n, .slice aA A.length cA, .slice aB B.length cB] 41)) HK.out (hA.fr ((Fr.refl No w).alloc _) (fun _ _ _ _ _ _ x => x)) hl hl2
  cases hr : rowR k n A B with
  | false =>
    rw [hr] at hrow e0
    rw [e0, if_pos rfl]
    clear e0 hr
    go_enter Try.func28, Try.ntmps28
    go_wp2_with (go_at_call 60; refine hrow.mono ?_; rintro e w1 ⟨rfl, hfr1⟩)
    go_ret
    exact ⟨rfl, ((Fr.refl _ _).alloc _).trans hfr1⟩
  | true =>
    obtain ⟨hb1, hb2⟩ := rowR_bounds k n A B hr
    have HB2 := Lib.hid hb2
    rw [hr] at hrow e0
    rw [e0, if_neg (by simp)]
    clear e0 hr hb2
    by_cases h3 : 2048 < holdsR k n
    · rw [if_pos h3]
      have hh := fun W => holds_any k n (.slice aA A.length cA) (.slice aB B.length cB) W HK.out hb1 HB2.out
      generalize holdsR k n = hv at *
      have HH := Lib.hid hh; clear hh
      go_enter Try.func28, Try.ntmps28
      go_wp2_with (first
        | (go_at_call 60; refine hrow.mono ?_; rintro e w1 ⟨rfl, hfr1⟩; obtain ⟨hc1, hz1⟩ := hfr1.at)
        | (go_at_call 61; refine (HH.out _).mono ?_; rintro e w2 ⟨rfl, hfr2⟩))
      go_ret
      exact ⟨rfl, (((Fr.refl _ _).alloc _).trans hfr1).trans hfr2⟩
    · rw [if_neg h3]
      have hh := fun W => holds_any k n (.slice aA A.length cA) (.slice aB B.length cB) W HK.out hb1 HB2.out
      generalize holdsR k n = hv at *
      have HH := Lib.hid hh; clear hh
      go_enter Try.func28, Try.ntmps28
      go_wp2_with (first
        | (go_at_call 60; refine hrow.mono ?_; rintro e w1 ⟨rfl, hfr1⟩; obtain ⟨hc1, hz1⟩ := hfr1.at)
        | (go_at_call 61; refine (HH.out _).mono ?_; rintro e w2 ⟨rfl, hfr2⟩))
      go_ret
      exact ⟨rfl, (((Fr.refl _ _).alloc _).trans hfr1).trans hfr2⟩
end Go.Proofs.Ytljldkknopmfhaa

/- The document's Arity and Bound. -/
namespace Go.Proofs.Ytljldkknopmfhaa
open Go.RowKit

def I3Post (w : World) (a b c : Int) (e : Ending) (w' : World) : Prop := e = .returned (.tuple #[.int .i64 a, .int .i64 b, .int .i64 c]) ∧ Fr No w w'
def I2Post (w : World) (a b : Int) (e : Ending) (w' : World) : Prop := e = .returned (.tuple #[.int .i64 a, .int .i64 b]) ∧ Fr No w w'
theorem chkR_kind (k n : Int) (A B : List UInt8) (h : chkR k n A B = 0) : ¬ (k < 1 ∨ 16 < k) ∧ rowR k n A B = true := by
  unfold chkR at h
  split at h
  · omega
  split at h
  · omega
  · rename_i h1 h2; exact ⟨h1, by simpa using h2⟩
set_option maxRecDepth 100000 in
theorem rarity_1 (n : Int) (aA aB : Option Addr) (A B : List UInt8) (cA cB : Nat) (w : World) (hA : At w aA (A.map bv)) (hl : A.length ≤ 100000000) (hl2 : B.length ≤ 100000000) (hc : chkR 1 n A B = 0) :
    Calls Try.prog 31 #[.agg #[.int .i64 1, .int .i64 n, .slice aA A.length cA, .slice aB B.length cB]] w (I3Post w 0 1 0) := by
  have hck := fun W hW => rcheck_any 1 n aA aB A B cA cB W hW hl hl2
  rw [hc] at hck
  have HC := Lib.hid hck; clear hck hc
  go_enter Try.func31, Try.ntmps31
  go_wp2_with (go_at_call 28; refine (HC.out _ (hA.fr ((Fr.refl No w).alloc _) (fun _ _ _ _ _ _ x => x))).mono ?_; rintro e w1 ⟨rfl, hfr1⟩; obtain ⟨hc1, hz1⟩ := hfr1.at)
  try (go_quiet (fail); go_wp2)
  go_ret3
  first | exact ⟨rfl, ((Fr.refl _ _).alloc _).trans hfr1⟩ | exact ⟨rfl, (((Fr.refl _ _).alloc _).trans hfr1).drewN nq⟩
set_option maxRecDepth 100000 in
theorem rarity_2 (n : Int) (aA aB : Option Addr) (A B : List UInt8) (cA cB : Nat) (w : World) (hA : At w aA (A.map bv)) (hl : A.length ≤ 100000000) (hl2 : B.length ≤ 100000000) (hc : chkR 2 n A B = 0) :
    Calls Try.prog 31 #[.agg #[.int .i64 2, .int .i64 n, .slice aA A.length cA, .slice aB B.length cB]] w (I3Post w 1 0 0) := by
  have hck := fun W hW => rcheck_any 2 n aA aB A B cA cB W hW hl hl2
  rw [hc] at hck
  have HC := Lib.hid hck; clear hck hc
  go_enter Try.func31, Try.ntmps31
  go_wp2_with (go_at_call 28; refine (HC.out _ (hA.fr ((Fr.refl No w).alloc _) (fun _ _ _ _ _ _ x => x))).mono ?_; rintro e w1 ⟨rfl, hfr1⟩; obtain ⟨hc1, hz1⟩ := hfr1.at)
  try (go_quiet (fail); go_wp2)
  go_ret3
  first | exact ⟨rfl, ((Fr.refl _ _).alloc _).trans hfr1⟩ | exact ⟨rfl, (((Fr.refl _ _).alloc _).trans hfr1).drewN nq⟩
set_option maxRecDepth 100000 in
theorem rarity_3 (n : Int) (aA aB : Option Addr) (A B : List UInt8) (cA cB : Nat) (w : World) (hA : At w aA (A.map bv)) (hl : A.length ≤ 100000000) (hl2 : B.length ≤ 100000000) (hc : chkR 3 n A B = 0) :
    Calls Try.prog 31 #[.agg #[.int .i64 3, .int .i64 n, .slice aA A.length cA, .slice aB B.length cB]] w (I3Post w 1 1 0) := by
  have hck := fun W hW => rcheck_any 3 n aA aB A B cA cB W hW hl hl2
  rw [hc] at hck
  have HC := Lib.hid hck; clear hck hc
  go_enter Try.func31, Try.ntmps31
  go_wp2_with (go_at_call 28; refine (HC.out _ (hA.fr ((Fr.refl No w).alloc _) (fun _ _ _ _ _ _ x => x))).mono ?_; rintro e w1 ⟨rfl, hfr1⟩; obtain ⟨hc1, hz1⟩ := hfr1.at)
  try (go_quiet (fail); go_wp2)
  go_ret3
  first | exact ⟨rfl, ((Fr.refl _ _).alloc _).trans hfr1⟩ | exact ⟨rfl, (((Fr.refl _ _).alloc _).trans hfr1).drewN nq⟩
set_option maxRecDepth 100000 in
theorem rarity_4 (n : Int) (aA aB : Option Addr) (A B : List UInt8) (cA cB : Nat) (w : World) (hA : At w aA (A.map bv)) (hl : A.length ≤ 100000000) (hl2 : B.length ≤ 100000000) (hc : chkR 4 n A B = 0) :
    Calls Try.prog 31 #[.agg #[.int .i64 4, .int .i64 n, .slice aA A.length cA, .slice aB B.length cB]] w (I3Post w 1 1 0) := by
  have hck := fun W hW => rcheck_any 4 n aA aB A B cA cB W hW hl hl2
  rw [hc] at hck
  have HC := Lib.hid hck; clear hck hc
  go_enter Try.func31, Try.ntmps31
  go_wp2_with (go_at_call 28; refine (HC.out _ (hA.fr ((Fr.refl No w).alloc _) (fun _ _ _ _ _ _ x => x))).mono ?_; rintro e w1 ⟨rfl, hfr1⟩; obtain ⟨hc1, hz1⟩ := hfr1.at)
  try (go_quiet (fail); go_wp2)
  go_ret3
  first | exact ⟨rfl, ((Fr.refl _ _).alloc _).trans hfr1⟩ | exact ⟨rfl, (((Fr.refl _ _).alloc _).trans hfr1).drewN nq⟩
set_option maxRecDepth 100000 in
theorem rarity_5 (n : Int) (aA aB : Option Addr) (A B : List UInt8) (cA cB : Nat) (w : World) (hA : At w aA (A.map bv)) (hl : A.length ≤ 100000000) (hl2 : B.length ≤ 100000000) (hc : chkR 5 n A B = 0) :
    Calls Try.prog 31 #[.agg #[.int .i64 5, .int .i64 n, .slice aA A.length cA, .slice aB B.length cB]] w (I3Post w 1 1 0) := by
  have hck := fun W hW => rcheck_any 5 n aA aB A B cA cB W hW hl hl2
  rw [hc] at hck
  have HC := Lib.hid hck; clear hck hc
  go_enter Try.func31, Try.ntmps31
  go_wp2_with (go_at_call 28; refine (HC.out _ (hA.fr ((Fr.refl No w).alloc _) (fun _ _ _ _ _ _ x => x))).mono ?_; rintro e w1 ⟨rfl, hfr1⟩; obtain ⟨hc1, hz1⟩ := hfr1.at)
  try (go_quiet (fail); go_wp2)
  go_ret3
  first | exact ⟨rfl, ((Fr.refl _ _).alloc _).trans hfr1⟩ | exact ⟨rfl, (((Fr.refl _ _).alloc _).trans hfr1).drewN nq⟩
set_option maxRecDepth 100000 in
theorem rarity_6 (n : Int) (aA aB : Option Addr) (A B : List UInt8) (cA cB : Nat) (w : World) (hA : At w aA (A.map bv)) (hl : A.length ≤ 100000000) (hl2 : B.length ≤ 100000000) (hc : chkR 6 n A B = 0) :
    Calls Try.prog 31 #[.agg #[.int .i64 6, .int .i64 n, .slice aA A.length cA, .slice aB B.length cB]] w (I3Post w 1 1 0) := by
  have hck := fun W hW => rcheck_any 6 n aA aB A B cA cB W hW hl hl2
  rw [hc] at hck
  have HC := Lib.hid hck; clear hck hc
  go_enter Try.func31, Try.ntmps31
  go_wp2_with (go_at_call 28; refine (HC.out _ (hA.fr ((Fr.refl No w).alloc _) (fun _ _ _ _ _ _ x => x))).mono ?_; rintro e w1 ⟨rfl, hfr1⟩; obtain ⟨hc1, hz1⟩ := hfr1.at)
  try (go_quiet (fail); go_wp2)
  go_ret3
  first | exact ⟨rfl, ((Fr.refl _ _).alloc _).trans hfr1⟩ | exact ⟨rfl, (((Fr.refl _ _).alloc _).trans hfr1).drewN nq⟩
set_option maxRecDepth 100000 in
theorem rarity_7 (n : Int) (aA aB : Option Addr) (A B : List UInt8) (cA cB : Nat) (w : World) (hA : At w aA (A.map bv)) (hl : A.length ≤ 100000000) (hl2 : B.length ≤ 100000000) (hc : chkR 7 n A B = 0) :
    Calls Try.prog 31 #[.agg #[.int .i64 7, .int .i64 n, .slice aA A.length cA, .slice aB B.length cB]] w (I3Post w 1 1 0) := by
  have hck := fun W hW => rcheck_any 7 n aA aB A B cA cB W hW hl hl2
  rw [hc] at hck
  have HC := Lib.hid hck; clear hck hc
  go_enter Try.func31, Try.ntmps31
  go_wp2_with (go_at_call 28; refine (HC.out _ (hA.fr ((Fr.refl No w).alloc _) (fun _ _ _ _ _ _ x => x))).mono ?_; rintro e w1 ⟨rfl, hfr1⟩; obtain ⟨hc1, hz1⟩ := hfr1.at)
  try (go_quiet (fail); go_wp2)
  go_ret3
  first | exact ⟨rfl, ((Fr.refl _ _).alloc _).trans hfr1⟩ | exact ⟨rfl, (((Fr.refl _ _).alloc _).trans hfr1).drewN nq⟩
set_option maxRecDepth 100000 in
theorem rarity_8 (n : Int) (aA aB : Option Addr) (A B : List UInt8) (cA cB : Nat) (w : World) (hA : At w aA (A.map bv)) (hl : A.length ≤ 100000000) (hl2 : B.length ≤ 100000000) (hc : chkR 8 n A B = 0) :
    Calls Try.prog 31 #[.agg #[.int .i64 8, .int .i64 n, .slice aA A.length cA, .slice aB B.length cB]] w (I3Post w 1 1 0) := by
  have hck := fun W hW => rcheck_any 8 n aA aB A B cA cB W hW hl hl2
  rw [hc] at hck
  have HC := Lib.hid hck; clear hck hc
  go_enter Try.func31, Try.ntmps31
  go_wp2_with (go_at_call 28; refine (HC.out _ (hA.fr ((Fr.refl No w).alloc _) (fun _ _ _ _ _ _ x => x))).mono ?_; rintro e w1 ⟨rfl, hfr1⟩; obtain ⟨hc1, hz1⟩ := hfr1.at)
  try (go_quiet (fail); go_wp2)
  go_ret3
  first | exact ⟨rfl, ((Fr.refl _ _).alloc _).trans hfr1⟩ | exact ⟨rfl, (((Fr.refl _ _).alloc _).trans hfr1).drewN nq⟩
set_option maxRecDepth 100000 in
theorem rarity_9 (n : Int) (aA aB : Option Addr) (A B : List UInt8) (cA cB : Nat) (w : World) (hA : At w aA (A.map bv)) (hl : A.length ≤ 100000000) (hl2 : B.length ≤ 100000000) (hc : chkR 9 n A B = 0) :
    Calls Try.prog 31 #[.agg #[.int .i64 9, .int .i64 n, .slice aA A.length cA, .slice aB B.length cB]] w (I3Post w 1 1 0) := by
  have hck := fun W hW => rcheck_any 9 n aA aB A B cA cB W hW hl hl2
  rw [hc] at hck
  have HC := Lib.hid hck; clear hck hc
  go_enter Try.func31, Try.ntmps31
  go_wp2_with (go_at_call 28; refine (HC.out _ (hA.fr ((Fr.refl No w).alloc _) (fun _ _ _ _ _ _ x => x))).mono ?_; rintro e w1 ⟨rfl, hfr1⟩; obtain ⟨hc1, hz1⟩ := hfr1.at)
  try (go_quiet (fail); go_wp2)
  go_ret3
  first | exact ⟨rfl, ((Fr.refl _ _).alloc _).trans hfr1⟩ | exact ⟨rfl, (((Fr.refl _ _).alloc _).trans hfr1).drewN nq⟩
set_option maxRecDepth 100000 in
theorem rarity_10 (n : Int) (aA aB : Option Addr) (A B : List UInt8) (cA cB : Nat) (w : World) (hA : At w aA (A.map bv)) (hl : A.length ≤ 100000000) (hl2 : B.length ≤ 100000000) (hc : chkR 10 n A B = 0) :
    Calls Try.prog 31 #[.agg #[.int .i64 10, .int .i64 n, .slice aA A.length cA, .slice aB B.length cB]] w (I3Post w 1 1 0) := by
  have hck := fun W hW => rcheck_any 10 n aA aB A B cA cB W hW hl hl2
  rw [hc] at hck
  have HC := Lib.hid hck; clear hck hc
  go_enter Try.func31, Try.ntmps31
  go_wp2_with (go_at_call 28; refine (HC.out _ (hA.fr ((Fr.refl No w).alloc _) (fun _ _ _ _ _ _ x => x))).mono ?_; rintro e w1 ⟨rfl, hfr1⟩; obtain ⟨hc1, hz1⟩ := hfr1.at)
  try (go_quiet (fail); go_wp2)
  go_ret3
  first | exact ⟨rfl, ((Fr.refl _ _).alloc _).trans hfr1⟩ | exact ⟨rfl, (((Fr.refl _ _).alloc _).trans hfr1).drewN nq⟩
set_option maxRecDepth 100000 in
theorem rarity_11 (n : Int) (aA aB : Option Addr) (A B : List UInt8) (cA cB : Nat) (w : World) (hA : At w aA (A.map bv)) (hl : A.length ≤ 100000000) (hl2 : B.length ≤ 100000000) (hc : chkR 11 n A B = 0) :
    Calls Try.prog 31 #[.agg #[.int .i64 11, .int .i64 n, .slice aA A.length cA, .slice aB B.length cB]] w (I3Post w 1 1 0) := by
  have hck := fun W hW => rcheck_any 11 n aA aB A B cA cB W hW hl hl2
  rw [hc] at hck
  have HC := Lib.hid hck; clear hck hc
  go_enter Try.func31, Try.ntmps31
  go_wp2_with (go_at_call 28; refine (HC.out _ (hA.fr ((Fr.refl No w).alloc _) (fun _ _ _ _ _ _ x => x))).mono ?_; rintro e w1 ⟨rfl, hfr1⟩; obtain ⟨hc1, hz1⟩ := hfr1.at)
  try (go_quiet (fail); go_wp2)
  go_ret3
  first | exact ⟨rfl, ((Fr.refl _ _).alloc _).trans hfr1⟩ | exact ⟨rfl, (((Fr.refl _ _).alloc _).trans hfr1).drewN nq⟩
set_option maxRecDepth 100000 in
theorem rarity_12 (n : Int) (aA aB : Option Addr) (A B : List UInt8) (cA cB : Nat) (w : World) (hA : At w aA (A.map bv)) (hl : A.length ≤ 100000000) (hl2 : B.length ≤ 100000000) (hc : chkR 12 n A B = 0) :
    Calls Try.prog 31 #[.agg #[.int .i64 12, .int .i64 n, .slice aA A.length cA, .slice aB B.length cB]] w (I3Post w n 1 0) := by
  have hck := fun W hW => rcheck_any 12 n aA aB A B cA cB W hW hl hl2
  rw [hc] at hck
  have HC := Lib.hid hck; clear hck hc
  go_enter Try.func31, Try.ntmps31
  go_wp2_with (go_at_call 28; refine (HC.out _ (hA.fr ((Fr.refl No w).alloc _) (fun _ _ _ _ _ _ x => x))).mono ?_; rintro e w1 ⟨rfl, hfr1⟩; obtain ⟨hc1, hz1⟩ := hfr1.at)
  try (go_quiet (fail); go_wp2)
  go_ret3
  first | exact ⟨rfl, ((Fr.refl _ _).alloc _).trans hfr1⟩ | exact ⟨rfl, (((Fr.refl _ _).alloc _).trans hfr1).drewN nq⟩
set_option maxRecDepth 100000 in
theorem rarity_13 (n : Int) (aA aB : Option Addr) (A B : List UInt8) (cA cB : Nat) (w : World) (hA : At w aA (A.map bv)) (hl : A.length ≤ 100000000) (hl2 : B.length ≤ 100000000) (hc : chkR 13 n A B = 0) :
    Calls Try.prog 31 #[.agg #[.int .i64 13, .int .i64 n, .slice aA A.length cA, .slice aB B.length cB]] w (I3Post w n 1 0) := by
  have hck := fun W hW => rcheck_any 13 n aA aB A B cA cB W hW hl hl2
  rw [hc] at hck
  have HC := Lib.hid hck; clear hck hc
  go_enter Try.func31, Try.ntmps31
  go_wp2_with (go_at_call 28; refine (HC.out _ (hA.fr ((Fr.refl No w).alloc _) (fun _ _ _ _ _ _ x => x))).mono ?_; rintro e w1 ⟨rfl, hfr1⟩; obtain ⟨hc1, hz1⟩ := hfr1.at)
  try (go_quiet (fail); go_wp2)
  go_ret3
  first | exact ⟨rfl, ((Fr.refl _ _).alloc _).trans hfr1⟩ | exact ⟨rfl, (((Fr.refl _ _).alloc _).trans hfr1).drewN nq⟩
set_option maxRecDepth 100000 in
theorem rarity_14 (n : Int) (aA aB : Option Addr) (A B : List UInt8) (cA cB : Nat) (w : World) (hA : At w aA (A.map bv)) (hl : A.length ≤ 100000000) (hl2 : B.length ≤ 100000000) (hc : chkR 14 n A B = 0) :
    Calls Try.prog 31 #[.agg #[.int .i64 14, .int .i64 n, .slice aA A.length cA, .slice aB B.length cB]] w (I3Post w 2 1 0) := by
  have hck := fun W hW => rcheck_any 14 n aA aB A B cA cB W hW hl hl2
  rw [hc] at hck
  have HC := Lib.hid hck; clear hck hc
  go_enter Try.func31, Try.ntmps31
  go_wp2_with (go_at_call 28; refine (HC.out _ (hA.fr ((Fr.refl No w).alloc _) (fun _ _ _ _ _ _ x => x))).mono ?_; rintro e w1 ⟨rfl, hfr1⟩; obtain ⟨hc1, hz1⟩ := hfr1.at)
  try (go_quiet (fail); go_wp2)
  go_ret3
  first | exact ⟨rfl, ((Fr.refl _ _).alloc _).trans hfr1⟩ | exact ⟨rfl, (((Fr.refl _ _).alloc _).trans hfr1).drewN nq⟩
set_option maxRecDepth 100000 in
theorem rarity_15 (n : Int) (aA aB : Option Addr) (A B : List UInt8) (cA cB : Nat) (w : World) (hA : At w aA (A.map bv)) (hl : A.length ≤ 100000000) (hl2 : B.length ≤ 100000000) (hc : chkR 15 n A B = 0) :
    Calls Try.prog 31 #[.agg #[.int .i64 15, .int .i64 n, .slice aA A.length cA, .slice aB B.length cB]] w (I3Post w 1 n 0) := by
  have hck := fun W hW => rcheck_any 15 n aA aB A B cA cB W hW hl hl2
  rw [hc] at hck
  have HC := Lib.hid hck; clear hck hc
  go_enter Try.func31, Try.ntmps31
  go_wp2_with (go_at_call 28; refine (HC.out _ (hA.fr ((Fr.refl No w).alloc _) (fun _ _ _ _ _ _ x => x))).mono ?_; rintro e w1 ⟨rfl, hfr1⟩; obtain ⟨hc1, hz1⟩ := hfr1.at)
  try (go_quiet (fail); go_wp2)
  go_ret3
  first | exact ⟨rfl, ((Fr.refl _ _).alloc _).trans hfr1⟩ | exact ⟨rfl, (((Fr.refl _ _).alloc _).trans hfr1).drewN nq⟩
set_option maxRecDepth 100000 in
theorem rarity_16 (n : Int) (aA aB : Option Addr) (A B : List UInt8) (cA cB : Nat) (w : World) (hA : At w aA (A.map bv)) (hl : A.length ≤ 100000000) (hl2 : B.length ≤ 100000000) (hc : chkR 16 n A B = 0) :
    Calls Try.prog 31 #[.agg #[.int .i64 16, .int .i64 n, .slice aA A.length cA, .slice aB B.length cB]] w (I3Post w 1 n 0) := by
  have hck := fun W hW => rcheck_any 16 n aA aB A B cA cB W hW hl hl2
  rw [hc] at hck
  have HC := Lib.hid hck; clear hck hc
  go_enter Try.func31, Try.ntmps31
  go_wp2_with (go_at_call 28; refine (HC.out _ (hA.fr ((Fr.refl No w).alloc _) (fun _ _ _ _ _ _ x => x))).mono ?_; rintro e w1 ⟨rfl, hfr1⟩; obtain ⟨hc1, hz1⟩ := hfr1.at)
  try (go_quiet (fail); go_wp2)
  go_ret3
  first | exact ⟨rfl, ((Fr.refl _ _).alloc _).trans hfr1⟩ | exact ⟨rfl, (((Fr.refl _ _).alloc _).trans hfr1).drewN nq⟩
set_option maxRecDepth 100000 in
theorem rarity_any (k n : Int) (aA aB : Option Addr) (A B : List UInt8) (cA cB : Nat) (w : World) (hA : At w aA (A.map bv)) (hl : A.length ≤ 100000000) (hl2 : B.length ≤ 100000000) :
    Calls Try.prog 31 #[.agg #[.int .i64 k, .int .i64 n, .slice aA A.length cA, .slice aB B.length cB]] w (I3Post w (insR k n A B) (outsR k n A B) (chkR k n A B)) := by
  by_cases h0 : chkR k n A B = 0
  · obtain ⟨hk, _⟩ := chkR_kind k n A B h0
    rw [show insR k n A B = if k = 1 then 0 else if k = 2 then 1 else if k = 12 ∨ k = 13 then n else if k = 14 then 2 else 1 from by unfold insR; rw [if_neg (by simp [h0])],
      show outsR k n A B = if k = 1 then 1 else if k = 2 then 0 else if k = 15 ∨ k = 16 then n else 1 from by unfold outsR; rw [if_neg (by simp [h0])], h0]
    rcases kinds k hk with rfl | rfl | rfl | rfl | rfl | rfl | rfl | rfl | rfl | rfl | rfl | rfl | rfl | rfl | rfl | rfl
    · exact rarity_1 n aA aB A B cA cB w hA hl hl2 h0
    · exact rarity_2 n aA aB A B cA cB w hA hl hl2 h0
    · exact rarity_3 n aA aB A B cA cB w hA hl hl2 h0
    · exact rarity_4 n aA aB A B cA cB w hA hl hl2 h0
    · exact rarity_5 n aA aB A B cA cB w hA hl hl2 h0
    · exact rarity_6 n aA aB A B cA cB w hA hl hl2 h0
    · exact rarity_7 n aA aB A B cA cB w hA hl hl2 h0
    · exact rarity_8 n aA aB A B cA cB w hA hl hl2 h0
    · exact rarity_9 n aA aB A B cA cB w hA hl hl2 h0
    · exact rarity_10 n aA aB A B cA cB w hA hl hl2 h0
    · exact rarity_11 n aA aB A B cA cB w hA hl hl2 h0
    · exact rarity_12 n aA aB A B cA cB w hA hl hl2 h0
    · exact rarity_13 n aA aB A B cA cB w hA hl hl2 h0
    · exact rarity_14 n aA aB A B cA cB w hA hl hl2 h0
    · exact rarity_15 n aA aB A B cA cB w hA hl hl2 h0
    · exact rarity_16 n aA aB A B cA cB w hA hl hl2 h0
  · rw [show insR k n A B = 0 from by unfold insR; rw [if_pos h0], show outsR k n A B = 0 from by unfold outsR; rw [if_pos h0]]
    have hck := fun W hW => rcheck_any k n aA aB A B cA cB W hW hl hl2
    have hne : (chkR k n A B != 0) = true := by simp [h0]
    have hne2 : (chkR k n A B == 0) = false := by simp [h0]
    generalize chkR k n A B = c at *
    have HC := Lib.hid hck; clear hck h0
    go_enter Try.func31, Try.ntmps31
    go_wp2_with (go_at_call 28; refine (HC.out _ (hA.fr ((Fr.refl No w).alloc _) (fun _ _ _ _ _ _ x => x))).mono ?_; rintro e w1 ⟨rfl, hfr1⟩; obtain ⟨hc1, hz1⟩ := hfr1.at)
    try (go_quiet (fail); go_wp2)
    go_ret3
    first | exact ⟨rfl, ((Fr.refl _ _).alloc _).trans hfr1⟩ | exact ⟨rfl, (((Fr.refl _ _).alloc _).trans hfr1).drewN nq⟩
set_option maxRecDepth 100000 in
theorem rbound_any (k n : Int) (aA aB : Option Addr) (A B : List UInt8) (cA cB : Nat) (w : World) (hA : At w aA (A.map bv)) (hl : A.length ≤ 100000000) (hl2 : B.length ≤ 100000000) :
    Calls Try.prog 33 #[.agg #[.int .i64 k, .int .i64 n, .slice aA A.length cA, .slice aB B.length cB]] w (I2Post w (bndR k n A B) (chkR k n A B)) := by
  have hck := fun W hW => rcheck_any k n aA aB A B cA cB W hW hl hl2
  by_cases h0 : chkR k n A B = 0
  · obtain ⟨hk, hr⟩ := chkR_kind k n A B h0
    obtain ⟨hb1, hb2⟩ := rowR_bounds k n A B hr
    rw [show bndR k n A B = holdsR k n from by unfold bndR; rw [if_neg (by simp [h0])]]
    rw [h0] at hck ⊢
    have hh := fun W => holds_any k n (.slice aA A.length cA) (.slice aB B.length cB) W hk hb1 hb2
    generalize holdsR k n = hv at *
    have HH := Lib.hid hh
    have HC := Lib.hid hck; clear hck h0 hh hk hb2 hr
    go_enter Try.func33, Try.ntmps33
    go_wp2_with (first
      | (go_at_call 28; refine (HC.out _ (hA.fr ((Fr.refl No w).alloc _) (fun _ _ _ _ _ _ x => x))).mono ?_; rintro e w1 ⟨rfl, hfr1⟩; obtain ⟨hc1, hz1⟩ := hfr1.at)
      | (go_at_call 61; refine (HH.out _).mono ?_; rintro e w2 ⟨rfl, hfr2⟩))
    go_ret2
    exact ⟨rfl, (((Fr.refl _ _).alloc _).trans hfr1).trans hfr2⟩
  · rw [show bndR k n A B = 0 from by unfold bndR; rw [if_pos h0]]
    have hne : (chkR k n A B != 0) = true := by simp [h0]
    have hne2 : (chkR k n A B == 0) = false := by simp [h0]
    generalize chkR k n A B = c at *
    have HC := Lib.hid hck; clear hck h0
    go_enter Try.func33, Try.ntmps33
    go_wp2_with (go_at_call 28; refine (HC.out _ (hA.fr ((Fr.refl No w).alloc _) (fun _ _ _ _ _ _ x => x))).mono ?_; rintro e w1 ⟨rfl, hfr1⟩; obtain ⟨hc1, hz1⟩ := hfr1.at)
    go_ret2
    exact ⟨rfl, ((Fr.refl _ _).alloc _).trans hfr1⟩
end Go.Proofs.Ytljldkknopmfhaa
