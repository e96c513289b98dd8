/- The library's Clone, Index, Contains at bytes: walked. -/
import Derived.Test.YtljldkknopmfhaaRows
import Derived.Test.YtljldkknopmfhaaBase
namespace Go.Proofs.Ytljldkknopmfhaa
open Go.RowKit

theorem Try.info5 : (Try.prog.info? 5).map (fun i => (i.zero, i.size, i.bytes)) = some (some (.int .u8 0), 1, 1) := by kernel_rfl
theorem own_empty (w : World) (e : TypeId) (size : Nat) : OwnSl (w.alloc (.cells #[] e)) e size (.slice (some ⟨w.heap.size, 0, none⟩) 0 0) 0 [] :=
  ⟨by simp, .inr ⟨w.heap.size, 0, 0, #[], rfl, heap_alloc_new w _, Nat.le_refl _, Nat.zero_le _, by simp, fun i hi => absurd hi (by simp)⟩⟩

/-- A clone: the same bytes, in memory of its own. -/
def ClonePost (w : World) (bs : List UInt8) (e : Ending) (w' : World) : Prop :=
  ∃ a c, e = .returned (.slice a bs.length c) ∧ OwnSl w' 5 1 (.slice a bs.length c) bs.length (bs.map bv) ∧ Fr No w w' ∧ ∀ b, (Value.slice a bs.length c).ownBlock = some b → w.heap.size ≤ b
set_option maxRecDepth 100000 in
theorem clone_any (a : Option Addr) (n c : Nat) (bs : List UInt8) (w : World) (hn : n = bs.length) (ha : At w a (bs.map bv)) (hl : bs.length ≤ 100000000) :
    Calls Try.prog 58 #[.slice a n c] w (ClonePost w bs) := by
  subst hn
  obtain ⟨j0, hj, jz0, jz1, jz2⟩ := info_parts Try.info5
  cases a with
  | none =>
    have h0 : bs = [] := by
      rcases Nat.eq_zero_or_pos bs.length with h | h
      · exact List.eq_nil_of_length_eq_zero h
      · obtain ⟨g, off, e, _⟩ := ha (by simpa using h); cases e
    subst h0
    have he := fun W => Lib.run_eql_slice_nil (P := Try.prog) W 29 5 none ([] : List UInt8).length c 0 0 Try.underlying29
    simp only [List.length_nil, Option.isNone_none] at he ⊢
    go_enter Try.func58, Try.ntmps58
    go_wp2
    go_ret
    exact ⟨none, 0, rfl, OwnSl.nil _ _ _, Fr.refl _ _, by simp [Value.ownBlock]⟩
  | some ad =>
    have he := fun W => Lib.run_eql_slice_nil (P := Try.prog) W 29 5 (some ad) bs.length c 0 0 Try.underlying29
    simp only [Option.isNone_some] at he
    go_enter Try.func58, Try.ntmps58
    go_wp2_with (at_builtin; refine wpList_append_sl rfl (.tmp 5) (.tmp 6) 29 29 rfl 5 j0 (.int .u8 0) 1 1 Try.underlying29 hj jz0 jz1 jz2 rfl (by decide) (.slice (some ⟨w.heap.size, 0, none⟩) 0 0) 0 [] rfl (own_empty w 5 1) _ bs.length (bs.map bv) rfl (src_slice Try.underlying29 (by simp) (ha.fr ((Fr.refl No _).alloc _) (fun _ _ _ _ _ _ x => x)) (by simp [Value.oneCell'])) (by omega) (by omega) ?_; intro v1 w1 hown1 hfr1 hblk1; obtain ⟨a1, c1, hv1, hat1, _⟩ := hown1.at; subst hv1)
    go_ret
    rw [Nat.zero_add, List.nil_append] at hown1
    rw [Nat.zero_add] at hblk1
    refine ⟨a1, c1, rfl, hown1, ((Fr.refl No w).alloc _).step hfr1 (fun i o hi x => ?_), fun b e => ?_⟩
    · have e' : some w.heap.size = some i := x
      injection e' with e'; omega
    · rcases hblk1 with h | h
      · rw [h] at e; have e' : some w.heap.size = some b := e; injection e' with e'; omega
      · rw [h] at e; injection e with e; simp at e; omega

/-- The first place at which a byte stands, or -1. -/
def idxB (bs : List UInt8) (x : UInt8) : Int := if x ∈ bs then (bs.idxOf x : Int) else -1
def IntPost (w : World) (n : Int) (e : Ending) (w' : World) : Prop := e = .returned (.int .i64 n) ∧ w = w'
set_option maxRecDepth 100000 in
theorem index_any (a : Option Addr) (n c : Nat) (bs : List UInt8) (x : UInt8) (w : World) (hn : n = bs.length) (ha : At w a (bs.map bv)) (hl : bs.length ≤ 100000000) :
    Calls Try.prog 108 #[.slice a n c, .int .u8 x.toNat] w (IntPost w (idxB bs x)) := by
  subst hn
  have hli : (bs.length : Int) ≤ 100000000 := by omega
  go_enter Try.func108, Try.ntmps108
  go_wp2
  go_loop [8] (fun i => ∃ k : Nat, k ≤ bs.length ∧ i = .int .i64 k ∧ x ∉ bs.take k) (fun i => bs.length - (intOf i).toNat)
  case atStart => exact ⟨0, Nat.zero_le _, rfl, by simp⟩
  case round =>
    obtain ⟨k, hk, rfl, hno⟩ := hrel
    have HN := Lib.hid hno; clear hno
    by_cases hlt : k < bs.length
    · obtain ⟨g, off, rfl, hrow⟩ := ha (by simp; omega)
      have hcell := hrow.get k (bv bs[k]) (by simp [hlt])
      have ht : bs.take (k + 1) = bs.take k ++ [bs[k]] := List.take_succ_eq_append_getElem hlt
      have hb : bs[k] ∈ bs := List.getElem_mem _
      have hi : bs[k] = x → bs.idxOf x = k := fun e => by
        have h1 : bs = bs.take k ++ x :: bs.drop (k + 1) := by rw [← e, ← List.drop_eq_getElem_cons hlt, List.take_append_drop]
        have h2 : x ∉ bs.take k := HN.out
        conv => lhs; rw [h1]
        rw [List.idxOf_append, if_neg h2, List.idxOf_cons_self]
        simp; omega
      have HI := Lib.hid hi; clear hi
      generalize bs[k] = y at *
      have HT := Lib.hid ht; clear ht
      have HB := Lib.hid hb; clear hb
      have hki : (k : Int) < bs.length := by omega
      by_cases hx : y = x
      · subst hx
        have e1 : idxB bs y = k := by unfold idxB; rw [if_pos HB.out, HI.out rfl]
        have E1 := Lib.hid e1; clear e1
        go_wp2
        go_ret
        rw [E1.out]
        exact ⟨rfl, rfl⟩
      · have hx1 : ((x.toNat : Int) == y.toNat) = false := by
          simp only [beq_eq_false_iff_ne]
          intro e; apply hx; exact UInt8.toNat.inj (by omega)
        have hx2 : (x.toNat == y.toNat) = false := by
          simp only [beq_eq_false_iff_ne]
          intro e; apply hx; exact UInt8.toNat.inj (by omega)
        have HX := Lib.hid hx; clear hx
        go_wp2
        go_round
        case rel => exact ⟨k + 1, by omega, by go_num, by rw [HT.out]; simp; exact ⟨HN.out, fun e => HX.out e.symm⟩⟩
        case measure => simp [intOf]; omega
    · obtain rfl : k = bs.length := by omega
      have e1 : idxB bs x = -1 := by
        have := HN.out
        rw [List.take_length] at this
        unfold idxB; rw [if_neg this]
      have E1 := Lib.hid e1; clear e1
      go_wp2
      go_ret
      rw [E1.out]
      exact ⟨rfl, rfl⟩

set_option maxRecDepth 100000 in
theorem contains_true (a : Option Addr) (n c : Nat) (bs : List UInt8) (x : UInt8) (w : World) (hn : n = bs.length) (ha : At w a (bs.map bv)) (hl : bs.length ≤ 100000000) (hx : x ∈ bs) :
    Calls Try.prog 98 #[.slice a n c, .int .u8 x.toNat] w fun e w' => e = .returned (.bool true) ∧ w = w' := by
  subst hn
  have h0 : 0 ≤ idxB bs x := by unfold idxB; rw [if_pos hx]; omega
  go_enter Try.func98, Try.ntmps98
  go_wp2_with (go_at_call 108; refine (index_any _ _ _ bs x _ rfl ha hl).mono ?_; rintro e w' ⟨rfl, rfl⟩)
  go_ret
  exact ⟨by simp, rfl⟩
set_option maxRecDepth 100000 in
theorem contains_false (a : Option Addr) (n c : Nat) (bs : List UInt8) (x : UInt8) (w : World) (hn : n = bs.length) (ha : At w a (bs.map bv)) (hl : bs.length ≤ 100000000) (hx : x ∉ bs) :
    Calls Try.prog 98 #[.slice a n c, .int .u8 x.toNat] w fun e w' => e = .returned (.bool false) ∧ w = w' := by
  subst hn
  have h0 : idxB bs x = -1 := by unfold idxB; rw [if_neg hx]
  go_enter Try.func98, Try.ntmps98
  go_wp2_with (go_at_call 108; refine (index_any _ _ _ bs x _ rfl ha hl).mono ?_; rintro e w' ⟨rfl, rfl⟩)
  go_ret
  exact ⟨by simp, rfl⟩
end Go.Proofs.Ytljldkknopmfhaa
