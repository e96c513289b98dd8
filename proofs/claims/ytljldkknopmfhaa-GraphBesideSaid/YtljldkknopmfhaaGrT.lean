/- Graphs: small functions: free, set, Contains, stage, port. -/
import Derived.Test.YtljldkknopmfhaaGrR
import Derived.BigQuiet
namespace Go.Proofs.Ytljldkknopmfhaa
open Go.RowKit

def idxI (xs : List Int) (x : Int) : Int := if x ∈ xs then (xs.idxOf x : Int) else -1
set_option maxRecDepth 100000 in
theorem indexI_any (a : Option Addr) (n c : Nat) (xs : List Int) (x : Int) (w : World) (hn : n = xs.length) (ha : At w a (xs.map iv)) (hl : xs.length ≤ 100000000) :
    Calls Try.prog 97 #[.slice a n c, .int .i64 x] w fun e w' => e = .returned (.int .i64 (idxI xs x)) ∧ w = w' := by
  subst hn
  have hli : (xs.length : Int) ≤ 100000000 := by omega
  go_enter Try.func97, Try.ntmps97
  go_wp2
  go_loop [8] (fun i => ∃ k : Nat, k ≤ xs.length ∧ i = .int .i64 k ∧ x ∉ xs.take k) (fun i => xs.length - (intOf i).toNat)
  case atStart => exact ⟨0, Nat.zero_le _, rfl, by simp⟩
  case round =>
    obtain ⟨k, hk, rfl, hno⟩ := hrel
    have HN := Lib.hid hno; clear hno
    by_cases hlt : k < xs.length
    · obtain ⟨g, off, rfl, hrow⟩ := ha (by simp; omega)
      have hcell : w.cell? ⟨g, off + k, none⟩ = some (.int .i64 xs[k]) := hrow.get k (iv xs[k]) (by simp [hlt])
      have ht : xs.take (k + 1) = xs.take k ++ [xs[k]] := List.take_succ_eq_append_getElem hlt
      have hb : xs[k] ∈ xs := List.getElem_mem _
      have hi : xs[k] = x → xs.idxOf x = k := fun e => by
        have h1 : xs = xs.take k ++ x :: xs.drop (k + 1) := by rw [← e, ← List.drop_eq_getElem_cons hlt, List.take_append_drop]
        have h2 : x ∉ xs.take k := HN.out
        conv => lhs; rw [h1]
        rw [List.idxOf_append, if_neg h2, List.idxOf_cons_self]
        simp; omega
      have HI := Lib.hid hi; clear hi
      generalize xs[k] = y at *
      have HT := Lib.hid ht; clear ht
      have HB := Lib.hid hb; clear hb
      have hki : (k : Int) < xs.length := by omega
      by_cases hx : y = x
      · subst hx
        have e1 : idxI xs y = k := by unfold idxI; rw [if_pos HB.out, HI.out rfl]
        have E1 := Lib.hid e1; clear e1
        go_wp2
        go_ret
        rw [E1.out]
        exact ⟨rfl, rfl⟩
      · have hx1 : (x == y) = false := by
          simp only [beq_eq_false_iff_ne]
          exact fun e => hx e.symm
        have HX := Lib.hid hx; clear hx
        go_wp2
        go_round
        case rel => exact ⟨k + 1, by omega, by go_num, by rw [HT.out]; simp; exact ⟨HN.out, fun e => HX.out e.symm⟩⟩
        case measure => simp [intOf]; omega
    · obtain rfl : k = xs.length := by omega
      have e1 : idxI xs x = -1 := by
        have := HN.out
        rw [List.take_length] at this
        unfold idxI; rw [if_neg this]
      have E1 := Lib.hid e1; clear e1
      go_wp2
      go_ret
      rw [E1.out]
      exact ⟨rfl, rfl⟩
/-- What answers a Bool and leaves the memory as it is. -/
def TellB (w : World) (b : Bool) (e : Ending) (w' : World) : Prop := e = .returned (.bool b) ∧ w = w'
set_option maxRecDepth 100000 in
theorem hasI_any (a : Option Addr) (n c : Nat) (xs : List Int) (x : Int) (w : World) (hn : n = xs.length) (ha : At w a (xs.map iv)) (hl : xs.length ≤ 100000000) :
    Calls Try.prog 74 #[.slice a n c, .int .i64 x] w (TellB w (decide (x ∈ xs))) := by
  subst hn
  have HI := Lib.hid (indexI_any a _ c xs x w rfl ha hl)
  by_cases hx : x ∈ xs
  · rw [decide_eq_true hx]
    have h0 : 0 ≤ idxI xs x := by unfold idxI; rw [if_pos hx]; omega
    generalize idxI xs x = q at *
    clear hx
    go_enter Try.func74, Try.ntmps74
    go_wp2_with (go_at_call 97; refine HI.out.mono ?_; rintro e w' ⟨rfl, rfl⟩)
    go_ret
    exact ⟨by simp, rfl⟩
  · rw [decide_eq_false hx]
    have h0 : idxI xs x = -1 := by unfold idxI; rw [if_neg hx]
    rw [h0] at HI
    clear hx h0
    go_enter Try.func74, Try.ntmps74
    go_wp2_with (go_at_call 97; refine HI.out.mono ?_; rintro e w' ⟨rfl, rfl⟩)
    go_ret
    exact ⟨by simp, rfl⟩

/- set, where it may not. -/
set_option maxRecDepth 100000 in
theorem set_no (w : World) (a : Option Addr) (xs : List Int) (n c : Nat) (hn : n = xs.length) (ha : At w a (xs.map iv)) (p d : Int) (h : ¬ ((0 ≤ p ∧ p < xs.length) ∧ xs.getD p.toNat 0 < 0)) (hl : xs.length ≤ 100000000) :
    Calls Try.prog 106 #[.slice a n c, .int .i64 p, .int .i64 d] w (TellB w false) := by
  subst hn
  by_cases h1 : p < 0
  · clear h
    go_enter Try.func106, Try.ntmps106
    go_wp2
    go_ret
    exact ⟨rfl, rfl⟩
  · by_cases h2 : p < xs.length
    · obtain ⟨k, rfl⟩ : ∃ k : Nat, p = k := ⟨p.toNat, by omega⟩
      have hk : k < xs.length := by omega
      have h3 : ¬ xs.getD k 0 < 0 := fun x => h ⟨⟨by omega, h2⟩, by simpa using x⟩
      have h3' : 0 ≤ xs.getD k 0 := by omega
      obtain ⟨g, off, rfl, hrow⟩ := ha (by simp; omega)
      have hcell : w.cell? ⟨g, off + k, none⟩ = some (.int .i64 (xs.getD k 0)) := hrow.get k (iv (xs.getD k 0)) (by simp [List.getD_eq_getElem?_getD, hk])
      generalize xs.getD k 0 = y at *
      clear h h3 h1
      go_enter Try.func106, Try.ntmps106
      go_wp2
      go_ret
      exact ⟨rfl, rfl⟩
    · clear h
      go_enter Try.func106, Try.ntmps106
      go_wp2
      go_ret
      exact ⟨rfl, rfl⟩
def SetPost (w : World) (b o : Nat) (x : Int) (e : Ending) (w' : World) : Prop := e = .returned (.bool true) ∧ w' = w.setCell ⟨b, o, none⟩ (iv x)
set_option maxRecDepth 100000 in
theorem set_yes (w : World) (b : Nat) (xs : List Int) (hb : w.heap[b]? = some (.cells (xs.map iv).toArray 3 (0, 0))) (p d : Int) (h : (0 ≤ p ∧ p < xs.length) ∧ xs.getD p.toNat 0 < 0) (_hl : xs.length ≤ 100000000) :
    Calls Try.prog 106 #[.slice (some ⟨b, 0, none⟩) xs.length xs.length, .int .i64 p, .int .i64 d] w (SetPost w b p.toNat d) := by
  obtain ⟨⟨h1, h2⟩, h3⟩ := h
  obtain ⟨k, rfl⟩ : ∃ k : Nat, p = k := ⟨p.toNat, by omega⟩
  have hk : k < xs.length := by omega
  have hrow := row_at_heap hb
  have hcell : w.cell? ⟨b, 0 + k, none⟩ = some (.int .i64 (xs.getD k 0)) := hrow.get k (iv (xs.getD k 0)) (by simp [List.getD_eq_getElem?_getD, hk])
  have hfr := frozen_block hb k
  simp only [Int.toNat_natCast, Nat.zero_add] at h3 hcell ⊢
  generalize xs.getD k 0 = y at *
  clear hrow hb
  go_enter Try.func106, Try.ntmps106
  go_wp2
  go_ret
  exact ⟨rfl, rfl⟩

theorem portB_yes {n p : Int} (h1 : 0 ≤ n) (h2 : n < p) : portB n p = true := by simp [portB, h1, h2]
theorem portB_low {n p : Int} (h1 : n < 0) : portB n p = false := by simp [portB]; omega
theorem portB_high {n p : Int} (h1 : ¬ n < p) : portB n p = false := by simp [portB]; omega
set_option maxRecDepth 100000 in
theorem port_any (n p : Int) (w : World) : Calls Try.prog 78 #[.int .i64 n, .int .i64 p] w (TellB w (portB n p)) := by
  by_cases h1 : 0 ≤ n
  · by_cases h2 : n < p
    · rw [portB_yes h1 h2]
      go_enter Try.func78, Try.ntmps78
      go_wp2
      go_ret
      exact ⟨rfl, rfl⟩
    · rw [portB_high h2]
      go_enter Try.func78, Try.ntmps78
      go_wp2
      go_ret
      exact ⟨rfl, rfl⟩
  · rw [portB_low (by omega)]
    go_enter Try.func78, Try.ntmps78
    go_wp2
    go_ret
    exact ⟨rfl, rfl⟩
set_option maxRecDepth 100000 in
theorem stage_any (n : Int) (bg : Nat) (sa : Option Addr) (m c : Nat) (w : World) (h : w.cell? ⟨bg, 0, none⟩ = some (.slice sa m c)) : Calls Try.prog 105 #[.int .i64 n, .pointer (some ⟨bg, 0, none⟩)] w (TellB w (portB n m)) := by
  by_cases h1 : 0 ≤ n
  · by_cases h2 : n < m
    · rw [portB_yes h1 h2]
      go_enter Try.func105, Try.ntmps105
      go_wp2
      go_ret
      exact ⟨rfl, rfl⟩
    · rw [portB_high h2]
      go_enter Try.func105, Try.ntmps105
      go_wp2
      go_ret
      exact ⟨rfl, rfl⟩
  · rw [portB_low (by omega)]
    have h1' : ¬ 0 ≤ n := h1
    go_enter Try.func105, Try.ntmps105
    go_wp2
    go_ret
    exact ⟨rfl, rfl⟩
end Go.Proofs.Ytljldkknopmfhaa
