/- The document's helpers for parameters: within, has, unlike, one. -/
import Derived.Test.YtppgojcfgdooiaaParM
import Derived.Test.YtppgojcfgdooiaaRows
namespace Go.Proofs.Ytppgojcfgdooiaa
open Go.RowKit

def BPost' (w : World) (b : Bool) (e : Ending) (w' : World) : Prop := e = .returned (.bool b) ∧ w = w'
set_option maxRecDepth 100000 in
theorem within_any (n a b : Int) (w : World) : Calls Try.prog 38 #[.int .i64 n, .int .i64 a, .int .i64 b] w (BPost' w (withinB n a b)) := by
  by_cases h1 : a ≤ n
  · by_cases h2 : n ≤ b
    · have hb : withinB n a b = true := by simp [withinB, h1, h2]
      rw [hb]; clear hb
      go_enter Try.func38, Try.ntmps38
      go_wp2
      go_ret
      exact ⟨rfl, rfl⟩
    · have hb : withinB n a b = false := by simp [withinB, h2]
      rw [hb]; clear hb
      go_enter Try.func38, Try.ntmps38
      go_wp2
      go_ret
      exact ⟨rfl, rfl⟩
  · have hb : withinB n a b = false := by simp [withinB, h1]
    rw [hb]; clear hb
    go_enter Try.func38, Try.ntmps38
    go_wp2
    go_ret
    exact ⟨rfl, rfl⟩

set_option maxRecDepth 100000 in
theorem has_any (a : Option Addr) (n c : Nat) (bs : List UInt8) (x : UInt8) (w : World) (hn : n = bs.length) (ha : At w a (bs.map bv)) (hl : bs.length ≤ 100000000) :
    Calls Try.prog 39 #[.slice a n c, .int .u8 x.toNat] w (BPost' w (hasB bs x)) := by
  subst hn
  have hli : (bs.length : Int) ≤ 100000000 := by omega
  go_enter Try.func39, Try.ntmps39
  go_wp2
  go_loop [5] (fun i => ∃ k : Nat, k ≤ bs.length ∧ i = .int .i64 k ∧ Hid (x ∉ bs.take k)) (fun i => bs.length - (intOf i).toNat)
  case atStart => exact ⟨0, Nat.zero_le _, rfl, Lib.hid (by simp)⟩
  case round =>
    obtain ⟨k, hk, rfl, HN⟩ := hrel
    by_cases hlt : k < bs.length
    · obtain ⟨g, off, rfl, hrow⟩ := ha (by simp; omega)
      have hcell : w.cell? ⟨g, off + k, none⟩ = some (.int .u8 bs[k].toNat) := hrow.get k (bv bs[k]) (by simp [hlt])
      have ht : bs.take (k + 1) = bs.take k ++ [bs[k]] := List.take_succ_eq_append_getElem hlt
      have hb : bs[k] ∈ bs := List.getElem_mem _
      generalize bs[k] = y at *
      have HT := Lib.hid ht; clear ht
      have HB := Lib.hid hb; clear hb
      have hki : (k : Int) < bs.length := by omega
      by_cases hx : y = x
      · subst hx
        have e1 : hasB bs y = true := by unfold hasB; simp [HB.out]
        have E1 := Lib.hid e1; clear e1
        go_wp2
        go_ret
        rw [E1.out]
        exact ⟨rfl, rfl⟩
      · have hx1 : ((y.toNat : Int) == x.toNat) = false := by
          simp only [beq_eq_false_iff_ne]
          intro e; apply hx; exact UInt8.toNat.inj (by omega)
        have hx2 : (y.toNat == x.toNat) = false := by
          simp only [beq_eq_false_iff_ne]
          intro e; apply hx; exact UInt8.toNat.inj (by omega)
        have HX := Lib.hid hx; clear hx
        go_wp2
        go_round
        case rel => exact ⟨k + 1, by omega, by go_num, Lib.hid (by rw [HT.out]; simp; exact ⟨HN.out, fun e => HX.out e.symm⟩)⟩
        case measure => simp [intOf]; omega
    · obtain rfl : k = bs.length := by omega
      have e1 : hasB bs x = false := by
        have := HN.out
        rw [List.take_length] at this
        unfold hasB; simp [this]
      have E1 := Lib.hid e1; clear e1
      go_wp2
      go_ret
      rw [E1.out]
      exact ⟨rfl, rfl⟩
theorem has10_any (a : Option Addr) (n c : Nat) (bs : List UInt8) (w : World) (hn : n = bs.length) (ha : At w a (bs.map bv)) (hl : bs.length ≤ 100000000) :
    Calls Try.prog 39 #[.slice a n c, .int .u8 10] w (BPost' w (hasB bs 10)) := has_any a n c bs 10 w hn ha hl

def DPost (w : World) (b : Bool) (e : Ending) (w' : World) : Prop := e = .returned (.bool b) ∧ ∃ q, w' = w.drewN q
theorem nodup_snoc (l : List UInt8) (x : UInt8) : (l ++ [x]).Nodup ↔ l.Nodup ∧ x ∉ l := by
  rw [List.nodup_append]
  simp
  intro _
  exact ⟨fun h hm => h x hm rfl, fun h a ha e => h (e ▸ ha)⟩
set_option maxHeartbeats 1000000 in
set_option maxRecDepth 100000 in
theorem unlike_any (a : Option Addr) (n c : Nat) (bs : List UInt8) (w : World) (hn : n = bs.length) (ha : At w a (bs.map bv)) (hl : bs.length ≤ 100000000) :
    Calls Try.prog 40 #[.slice a n c] w (DPost w (unlikeB bs)) := by
  subst hn
  have hli : (bs.length : Int) ≤ 100000000 := by omega
  go_enter Try.func40, Try.ntmps40
  go_wp2
  go_loopw [3] (fun i wr => ∃ k : Nat, k ≤ bs.length ∧ i = .int .i64 k ∧ Hid ((bs.take k).Nodup) ∧ ∃ q, wr = w.drewN q) (fun i _ => bs.length - (intOf i).toNat)
  case atStart => exact ⟨0, Nat.zero_le _, rfl, Lib.hid (by simp), 0, rfl⟩
  case round =>
    obtain ⟨k, hk, rfl, HN, q, rfl⟩ := hrel
    by_cases hlt : k < bs.length
    · obtain ⟨g, off, rfl, hrow⟩ := ha (by simp; omega)
      have ht : bs.take (k + 1) = bs.take k ++ [bs[k]] := List.take_succ_eq_append_getElem hlt
      have HT := Lib.hid ht; clear ht
      have hki : (k : Int) < bs.length := by omega
      go_wp2
      go_loopw [4] (fun j wr => ∃ m : Nat, m ≤ k ∧ j = .int .i64 m ∧ Hid (bs[k] ∉ bs.take m) ∧ ∃ q, wr = w.drewN q) (fun j _ => k - (intOf j).toNat)
      case atStart => exact ⟨0, Nat.zero_le _, rfl, Lib.hid (by simp), q, rfl⟩
      case round =>
        obtain ⟨m, hm, rfl, HM, q2, rfl⟩ := hrel
        by_cases hlm : m < k
        · have hml : m < bs.length := by omega
          have c1 : w.cell? ⟨g, off + m, none⟩ = some (.int .u8 bs[m].toNat) := hrow.get m (bv bs[m]) (by simp [hml])
          have c2 : w.cell? ⟨g, off + k, none⟩ = some (.int .u8 bs[k].toNat) := hrow.get k (bv bs[k]) (by simp [hlt])
          have htm : bs.take (m + 1) = bs.take m ++ [bs[m]] := List.take_succ_eq_append_getElem hml
          have hmi : (m : Int) < k := by omega
          have hmi2 : (m : Int) < bs.length := by omega
          have hdup : bs[m] = bs[k] → unlikeB bs = false := by
            intro e
            unfold unlikeB
            simp only [decide_eq_false_iff_not]
            intro hd
            exact (List.pairwise_iff_getElem.1 hd) m k hml hlt hlm e
          have HD := Lib.hid hdup; clear hdup
          have HTM := Lib.hid htm; clear htm
          generalize bs[m] = y at *
          generalize bs[k] = x at *
          by_cases hx : y = x
          · subst hx
            have E1 := Lib.hid (HD.out rfl)
            go_wp2_with fail
            go_quiet (fail)
            go_wp2
            go_ret
            rw [E1.out]
            exact ⟨rfl, q2 + nq, by simp [World.drewN_drewN]⟩
          · have hx1 : ((y.toNat : Int) == x.toNat) = false := by
              simp only [beq_eq_false_iff_ne]
              intro e; apply hx; exact UInt8.toNat.inj (by omega)
            have hx2 : (y.toNat == x.toNat) = false := by
              simp only [beq_eq_false_iff_ne]
              intro e; apply hx; exact UInt8.toNat.inj (by omega)
            have HX := Lib.hid hx; clear hx
            go_wp2_with fail
            go_quiet (fail)
            go_wp2
            go_roundw
            case rel => exact ⟨m + 1, by omega, by go_num, Lib.hid (by rw [HTM.out]; simp; exact ⟨HM.out, fun e => HX.out e.symm⟩), q2 + nq, by simp [World.drewN_drewN]⟩
            case measure => simp [intOf]; omega
        · obtain rfl : m = k := by omega
          go_wp2
          go_roundw
          case rel => exact ⟨m + 1, by omega, by go_num, Lib.hid (by rw [HT.out, nodup_snoc]; exact ⟨HN.out, HM.out⟩), q2, rfl⟩
          case measure => simp [intOf]; omega
    · obtain rfl : k = bs.length := by omega
      have e1 : unlikeB bs = true := by
        have := HN.out
        rw [List.take_length] at this
        unfold unlikeB; simp [this]
      have E1 := Lib.hid e1; clear e1
      go_wp2
      go_ret
      rw [E1.out]
      exact ⟨rfl, q, rfl⟩

set_option maxRecDepth 100000 in
theorem one_any (a : Option Addr) (n c : Nat) (bs : List UInt8) (w : World) (hn : n = bs.length) (ha : At w a (bs.map bv)) :
    Calls Try.prog 41 #[.slice a n c] w (BPost' w (oneB bs)) := by
  subst hn
  by_cases h1 : bs.length = 1
  · obtain ⟨x, rfl⟩ := List.length_eq_one_iff.1 h1
    obtain ⟨g, off, rfl, hrow⟩ := ha (by simp)
    have hc : w.cell? ⟨g, off + 0, none⟩ = some (.int .u8 x.toNat) := hrow.get 0 (bv x) rfl
    simp only [Nat.add_zero] at hc
    clear h1 hrow
    by_cases hx : x = 10
    · have hb : oneB [x] = false := by simp [oneB, hx]
      rw [hb]
      subst hx
      replace hc : w.cell? ⟨g, off + 0, none⟩ = some (.int .u8 10) := hc
      simp only [Nat.add_zero] at hc
      simp only [List.length_cons, List.length_nil, Nat.zero_add]
      clear hb ha
      go_enter Try.func41, Try.ntmps41
      go_wp2
      go_ret
      exact ⟨rfl, rfl⟩
    · have hx1 : ((x.toNat : Int) != 10) = true := by
        simp only [bne_iff_ne, ne_eq]; intro e; apply hx; apply UInt8.toNat.inj; show x.toNat = 10; omega
      have hx2 : (x.toNat != 10) = true := by
        simp only [bne_iff_ne, ne_eq]; intro e; apply hx; apply UInt8.toNat.inj; exact e
      have hx3 : ((x.toNat : Int) == 10) = false := by simpa using hx1
      have hb : oneB [x] = true := by simp [oneB, hx]
      rw [hb]
      simp only [List.length_cons, List.length_nil, Nat.zero_add]
      have HX := Lib.hid hx
      clear hb ha hx
      go_enter Try.func41, Try.ntmps41
      go_wp2
      go_ret
      exact ⟨rfl, rfl⟩
  · have hb : oneB bs = false := by simp [oneB, h1]
    rw [hb]
    have h3 : ((bs.length : Int) == 1) = false := by simp only [beq_eq_false_iff_ne]; omega
    clear hb h1 ha
    go_enter Try.func41, Try.ntmps41
    go_wp2
    go_ret
    exact ⟨rfl, rfl⟩
end Go.Proofs.Ytppgojcfgdooiaa
