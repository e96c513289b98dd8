/- slices.Compact at bytes: whether it leaves anything out. -/
import Derived.Test.YtppgojcfgdooiaaBytes
namespace Go.Proofs.Ytppgojcfgdooiaa
open Go.RowKit

/-- No two neighbours are alike. -/
def Unlike (bs : List UInt8) : Prop := ∀ i, i + 1 < bs.length → bs.getD i 0 ≠ bs.getD (i + 1) 0
def CompactPost (w : World) (a : Option Addr) (n c : Nat) (e : Ending) (w' : World) : Prop := e = .returned (.slice a n c) ∧ Fr No w w'
set_option maxHeartbeats 1000000 in
set_option maxRecDepth 100000 in
theorem compact_unlike (a : Option Addr) (n c : Nat) (bs : List UInt8) (w : World) (hn : n = bs.length) (h : OwnSl w 5 1 (.slice a n c) n (bs.map bv)) (hl : bs.length ≤ 100000000) (hu : Unlike bs) :
    Calls Try.prog 51 #[.slice a n c] w (CompactPost w a n c) := by
  subst hn
  have hU := Lib.hid hu; clear hu
  by_cases h2 : bs.length < 2
  · have h3 : decide ((bs.length : Int) < 2) = true := decide_eq_true (by omega)
    go_enter Try.func51, Try.ntmps51
    go_wp2
    go_ret
    exact ⟨rfl, Fr.refl _ _⟩
  have h3 : decide ((bs.length : Int) < 2) = false := decide_eq_false (by omega)
  have hli : (bs.length : Int) ≤ 100000000 := by omega
  have HO := Lib.hid h; clear h
  go_enter Try.func51, Try.ntmps51
  go_wp2
  go_loopw [3] (fun i wr => ∃ k : Nat, 1 ≤ k ∧ k ≤ bs.length ∧ i = .int .i64 k ∧ Fr No w wr) (fun i _ => bs.length - (intOf i).toNat)
  case atStart => exact ⟨1, Nat.le_refl _, by omega, rfl, Fr.refl _ _⟩
  case round =>
    obtain ⟨k, hk1, hk, rfl, hfr⟩ := hrel
    by_cases hlt : k < bs.length
    · have hown := HO.out.fr hfr (fun _ _ _ x => x)
      obtain ⟨g, o, rfl, c1, _⟩ := hown.get hlt
      obtain ⟨g', o', e', c2, _⟩ := hown.get (j := k - 1) (by omega)
      cases e'
      have hne := hU.out (k - 1) (by omega)
      rw [show k - 1 + 1 = k from by omega] at hne
      have e1 : (bs.map bv).getD k undef = .int .u8 (bs.getD k 0).toNat := by simp [List.getD_eq_getElem?_getD, hlt, bv]
      have e2 : (bs.map bv).getD (k - 1) undef = .int .u8 (bs.getD (k - 1) 0).toNat := by simp [List.getD_eq_getElem?_getD, show k - 1 < bs.length by omega, bv]
      rw [e1] at c1; rw [e2] at c2
      generalize bs.getD k 0 = x at *
      generalize bs.getD (k - 1) 0 = y at *
      have hx : (x.toNat == y.toNat) = false := by
        simp only [beq_eq_false_iff_ne]; intro e; exact hne (UInt8.toNat.inj e.symm)
      have hki : (k : Int) < bs.length := by omega
      have hk1i : (1 : Int) ≤ k := by omega
      clear hown e1 e2 hne
      go_wp2_with fail
      go_quiet (fail)
      go_wp2
      go_roundw
      case rel => exact ⟨k + 1, by omega, by omega, by go_num, hfr.drewN nq⟩
      case measure => simp [intOf]; omega
    · obtain rfl : k = bs.length := by omega
      go_wp2
      go_ret
      exact ⟨rfl, hfr⟩
end Go.Proofs.Ytppgojcfgdooiaa
