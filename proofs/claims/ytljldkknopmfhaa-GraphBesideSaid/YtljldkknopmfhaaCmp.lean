/- slices.Compact at bytes: whether it leaves anything out. -/
import Derived.Test.YtljldkknopmfhaaBytes
namespace Go.Proofs.Ytljldkknopmfhaa
open Go.RowKit

/-- No two neighbours are alike. -/
def Unlike (bs : List UInt8) : Prop := ∀ i, i + 1 < bs.length → bs.getD i 0 ≠ bs.getD (i + 1) 0
def CompactPost (w : World) (a : Option Addr) (n c : Nat) (e : Ending) (w' : World) : Prop := e = .returned (.slice a n c) ∧ Fr No w w'
set_option maxHeartbeats 1000000 in
set_option maxRecDepth 100000 in
theorem compact_unlike (a : Option Addr) (n c : Nat) (bs : List UInt8) (w : World) (hn : n = bs.length) (h : OwnSl w 5 1 (.slice a n c) n (bs.map bv)) (hl : bs.length ≤ 100000000) (hu : Unlike bs) :
    Calls Try.prog 100 #[.slice a n c] w (CompactPost w a n c) := by
  subst hn
  have hU := Lib.hid hu; clear hu
  by_cases h2 : bs.length < 2
  · have h3 : decide ((bs.length : Int) < 2) = true := decide_eq_true (by omega)
    go_enter Try.func100, Try.ntmps100
    go_wp2
    go_ret
    exact ⟨rfl, Fr.refl _ _⟩
  have h3 : decide ((bs.length : Int) < 2) = false := decide_eq_false (by omega)
  have hli : (bs.length : Int) ≤ 100000000 := by omega
  have HO := Lib.hid h; clear h
  go_enter Try.func100, Try.ntmps100
  go_wp2
  go_loopw [3] (fun i wr => ∃ k : Nat, 1 ≤ k ∧ k ≤ bs.length ∧ i = .int .i64 k ∧ Fr No w wr) (fun i _ => bs.length - (intOf i).toNat)
  case atStart => exact ⟨1, Nat.le_refl _, by omega, rfl, Fr.refl _ _⟩
  case round =>
    obtain ⟨k, hk1, hk, rfl, hfr⟩ := hrel
    by_cases hlt : k < bs.length
    · have hown := HO.out.fr hfr (fun _ _ _ x => x)
      obtain ⟨g, o, rfl, c1, _⟩ := hown.get hlt
      obtain ⟨g', o', e', c2, _⟩ := hown.get (j := k - 1) (by omega)
      cases e'
      have hne := hU.out (k - 1) (by omega)
      rw [show k - 1 + 1 = k from by omega] at hne
      have e1 : (bs.map bv).getD k undef = .int .u8 (bs.getD k 0).toNat := by simp [List.getD_eq_getElem?_getD, hlt, bv]
      have e2 : (bs.map bv).getD (k - 1) undef = .int .u8 (bs.getD (k - 1) 0).toNat := by simp [List.getD_eq_getElem?_getD, show k - 1 < bs.length by omega, bv]
      rw [e1] at c1; rw [e2] at c2
      generalize bs.getD k 0 = x at *
      generalize bs.getD (k - 1) 0 = y at *
      have hx : (x.toNat == y.toNat) = false := by
        simp only [beq_eq_false_iff_ne]; intro e; exact hne (UInt8.toNat.inj e.symm)
      have hki : (k : Int) < bs.length := by omega
      have hk1i : (1 : Int) ≤ k := by omega
      clear hown e1 e2 hne
      go_wp2_with fail
      go_quiet (fail)
      go_wp2
      go_roundw
      case rel => exact ⟨k + 1, by omega, by omega, by go_num, hfr.drewN nq⟩
      case measure => simp [intOf]; omega
    · obtain rfl : k = bs.length := by omega
      go_wp2
      go_ret
      exact ⟨rfl, hfr⟩
end Go.Proofs.Ytljldkknopmfhaa

/- slices.Compact at bytes: two neighbours alike: the answer is shorter. -/
namespace Go.Proofs.Ytljldkknopmfhaa
open Go.RowKit

theorem subA_in {g o c k : Nat} (h : k < c) : subA (some ⟨g, o, none⟩) c k 1 = some ⟨g, o + k, none⟩ := by
  unfold subA
  rw [if_neg (by omega)]
  simp [Addr.add]
theorem Fr.setCells {S : Nat → Nat → Prop} {a : World} {b : Nat} : ∀ {vs : List Value} {o : Nat} {w : World}, Fr S a w → (∀ o, b < a.heap.size → S b o) → Fr S a (w.setCells b o vs)
  | [], _, _, h, _ => h
  | v :: vs, o, _w, h, hS => Fr.setCells (vs := vs) (o := o + 1) (h.setCell (hS o) v) hS
def CompactLess (w : World) (a : Option Addr) (n c : Nat) (e : Ending) (w' : World) : Prop := (∃ m, m < n ∧ e = .returned (.slice a m c)) ∧ Fr (Blk (.slice a n c)) w w'
theorem OwnSl.capLe {w : World} {e : TypeId} {a : Option Addr} {n c : Nat} {xs : List Value} (h : OwnSl w e 1 (.slice a n c) n xs) : n ≤ c ∧ (n = 0 ∨ c ≤ maxLen) := by
  rcases h.2 with ⟨hv, h0⟩ | ⟨g, o, cap, cur, hv, hg, h1, h2, h3, hr⟩
  · subst h0; exact ⟨Nat.zero_le _, .inl rfl⟩
  · injection hv with hv1 hv2 hv3
    subst hv3; exact ⟨h1, .inr h2⟩
set_option maxHeartbeats 1000000 in
set_option maxRecDepth 100000 in
theorem compact_alike (a : Option Addr) (n c : Nat) (bs : List UInt8) (w : World) (hn : n = bs.length) (h : OwnSl w 5 1 (.slice a n c) n (bs.map bv)) (hl : bs.length ≤ 100000000) (hu : ¬ Unlike bs) :
    Calls Try.prog 100 #[.slice a n c] w (CompactLess w a n c) := by
  subst hn
  have hU := Lib.hid hu; clear hu
  by_cases h2 : bs.length < 2
  · exact absurd (fun i hi => by omega) hU.out
  have h3 : decide ((bs.length : Int) < 2) = false := decide_eq_false (by omega)
  have hli : (bs.length : Int) ≤ 100000000 := by omega
  have hcap := h.capLe.1
  have HO := Lib.hid h; clear h
  go_enter Try.func100, Try.ntmps100
  go_wp2
  go_loopw [3] (fun i wr => ∃ k : Nat, 1 ≤ k ∧ k ≤ bs.length ∧ i = .int .i64 k ∧ Hid (∀ i, i + 1 < k → bs.getD i 0 ≠ bs.getD (i + 1) 0) ∧ Fr No w wr) (fun i _ => bs.length - (intOf i).toNat)
  case atStart => exact ⟨1, Nat.le_refl _, by omega, rfl, Lib.hid (fun i hi => by omega), Fr.refl _ _⟩
  case round =>
    obtain ⟨k, hk1, hk, rfl, hD, hfr⟩ := hrel
    by_cases hlt : k < bs.length
    · have hown := HO.out.fr hfr (fun _ _ _ x => x)
      obtain ⟨g, o, rfl, c1, _⟩ := hown.get hlt
      obtain ⟨g', o', e', c2, _⟩ := hown.get (j := k - 1) (by omega)
      cases e'
      have e1 : (bs.map bv).getD k undef = .int .u8 (bs.getD k 0).toNat := by simp [List.getD_eq_getElem?_getD, hlt, bv]
      have e2 : (bs.map bv).getD (k - 1) undef = .int .u8 (bs.getD (k - 1) 0).toNat := by simp [List.getD_eq_getElem?_getD, show k - 1 < bs.length by omega, bv]
      rw [e1] at c1; rw [e2] at c2
      have hki : (k : Int) < bs.length := by omega
      have hkc : (k : Int) ≤ c := by omega
      have hk1i : (1 : Int) ≤ k := by omega
      clear e1 e2
      by_cases heq : bs.getD k 0 = bs.getD (k - 1) 0
      · have hsl : ∀ W : World, (Instr.slice 29 (.slice (some ⟨g, o, none⟩) bs.length c) (some (.int .i64 k)) none none).run Try.prog W = .ok (.slice (some ⟨g, o + k, none⟩) (bs.length - k) (c - k)) W := fun W => by
          obtain ⟨j0, hj, hjz0, hjz1, hjz2⟩ := info_parts Try.info5
          have := run_slice_from W 29 5 (some ⟨g, o, none⟩) bs.length c k j0 Try.underlying29 hj (by omega)
          rwa [hjz1, subA_in (by omega)] at this
        rw [← heq] at c2
        generalize bs.getD k 0 = x at *
        have HOwn : Hid (OwnSl wr 5 1 (.slice (some ⟨g, o, none⟩) bs.length c) bs.length (bs.map bv)) := Lib.hid hown
        clear hown heq
        go_wp2_with fail
        go_quiet (fail)
        go_wp2
        go_loopw [3, 5] (fun i j wv => ∃ (kk k2 : Nat) (ys : List UInt8), k ≤ kk ∧ kk + 1 ≤ k + k2 ∧ k + k2 ≤ bs.length ∧ i = .int .i64 kk ∧ j = .int .i64 k2 ∧ ys.length = bs.length ∧ Hid (OwnSl wv 5 1 (.slice (some ⟨g, o, none⟩) bs.length c) bs.length (ys.map bv)) ∧ Fr (Blk (.slice (some ⟨g, o, none⟩) bs.length c)) w wv) (fun _ j _ => bs.length - (intOf j).toNat)
        case atStart => exact ⟨k, 1, bs, Nat.le_refl _, by omega, by omega, rfl, rfl, rfl, Lib.hid (HOwn.out.fr ((Fr.refl No _).drewN nq) (fun _ _ _ x => x)), (hfr.mono (fun _ _ _ x => x.elim)).drewN nq⟩
        case round =>
          obtain ⟨kk, k2, ys, hkk, hkk2, hk2, rfl, rfl, hys, HY, hfy⟩ := hrel
          have hcc : kk < bs.length := by omega
          have hcci : (kk : Int) < bs.length := by omega
          by_cases hl2 : k + k2 < bs.length
          · obtain ⟨_, _, e', d1, _⟩ := HY.out.get hl2
            cases e'
            obtain ⟨_, _, e', d2, _⟩ := HY.out.get (j := k + k2 - 1) (by omega)
            cases e'
            obtain ⟨_, _, e', d3, f3⟩ := HY.out.get hcc
            cases e'
            have q1 : (ys.map bv).getD (k + k2) undef = .int .u8 (ys.getD (k + k2) 0).toNat := by simp [List.getD_eq_getElem?_getD, hys, hl2, bv]
            have q2 : (ys.map bv).getD (k + k2 - 1) undef = .int .u8 (ys.getD (k + k2 - 1) 0).toNat := by simp [List.getD_eq_getElem?_getD, hys, show k + k2 - 1 < bs.length by omega, bv]
            have q3 : (ys.map bv).getD kk undef = .int .u8 (ys.getD kk 0).toNat := by simp [List.getD_eq_getElem?_getD, hys, hcc, bv]
            rw [q1, show o + (k + k2) = o + k + k2 from by omega] at d1
            rw [q2, show o + (k + k2 - 1) = o + k + (k2 - 1) from by omega] at d2
            rw [q3] at d3
            have hk2i : (k2 : Int) < (bs.length - k : Nat) := by omega
            have hk2p : (1 : Int) ≤ k2 := by omega
            clear q1 q2 q3
            by_cases heq : ys.getD (k + k2) 0 = ys.getD (k + k2 - 1) 0
            · rw [← heq] at d2
              generalize ys.getD (k + k2) 0 = y at *
              clear heq
              go_wp2_with fail
              go_quiet (fail)
              go_wp2
              go_roundw
              case rel => exact ⟨kk, k2 + 1, ys, hkk, by omega, by omega, rfl, by go_num, hys, Lib.hid (HY.out.fr ((Fr.refl No _).drewN _) (fun _ _ _ x => x)), hfy.drewN _⟩
              case measure => simp [intOf]; omega
            · have hx : (((ys.getD (k + k2) 0).toNat : Int) != ((ys.getD (k + k2 - 1) 0).toNat : Int)) = true := by
                simp only [bne_iff_ne, ne_eq]; intro e; exact heq (UInt8.toNat.inj (by omega))
              have hset := HY.out.set hcc (bv (ys.getD (k + k2) 0))
              have HS : Hid (∀ nq, OwnSl ((wr.drewN nq).setCell ⟨g, o + kk, none⟩ (.int .u8 (ys.getD (k + k2) 0).toNat)) 5 1 (.slice (some ⟨g, o, none⟩) bs.length c) bs.length ((ys.set kk (ys.getD (k + k2) 0)).map bv)) := Lib.hid (fun nq => by
                rw [List.map_set]
                exact (HY.out.fr ((Fr.refl No _).drewN nq) (fun _ _ _ x => x)).set hcc (bv (ys.getD (k + k2) 0)))
              clear hset
              generalize ys.getD (k + k2) 0 = y at *
              generalize ys.getD (k + k2 - 1) 0 = y2 at *
              clear heq
              have hkk1 : (kk : Int) + 1 ≤ bs.length := by omega
              go_wp2_with fail
              go_quiet (fail)
              go_wp2
              go_roundw
              case rel => exact ⟨kk + 1, k2 + 1, ys.set kk y, by omega, by omega, by omega, by go_num, by go_num, by simpa using hys, Lib.hid (HS.out _), (hfy.drewN _).setCell (fun _ => rfl) _⟩
              case measure => simp [intOf]; omega
          · have hsl2 : ∀ W : World, (Instr.slice 29 (.slice (some ⟨g, o, none⟩) bs.length c) (some (.int .i64 kk)) none none).run Try.prog W = .ok (.slice (some ⟨g, o + kk, none⟩) (bs.length - kk) (c - kk)) W := fun W => by
              obtain ⟨j0, hj, hjz0, hjz1, hjz2⟩ := info_parts Try.info5
              have := run_slice_from W 29 5 (some ⟨g, o, none⟩) bs.length c kk j0 Try.underlying29 hj (by omega)
              rwa [hjz1, subA_in (by omega)] at this
            have hsl3 : ∀ W : World, (Instr.slice 29 (.slice (some ⟨g, o, none⟩) bs.length c) none (some (.int .i64 kk)) none).run Try.prog W = .ok (.slice (some ⟨g, o, none⟩) kk c) W := fun W => by
              obtain ⟨j0, hj, hjz0, hjz1, hjz2⟩ := info_parts Try.info5
              exact run_slice_to W 29 5 (some ⟨g, o, none⟩) bs.length c kk j0 Try.underlying29 hj (by omega)
            have hclr : (Builtin.clear_ #[29] 0 #[.slice (some ⟨g, o + kk, none⟩) (bs.length - kk) (c - kk)]).run Try.prog wr = .ok (.tuple #[]) (wr.setCells g (o + kk) (List.replicate (bs.length - kk) (.int .u8 0))) := by
              refine Lib.run_clear_slice wr 29 5 0 (.int .u8 0) Try.underlying29 ?_ rfl rfl g (o + kk) (bs.length - kk) (c - kk) (by omega) ?_ ?_
              · intro w; kernel_rfl
              · intro j hj
                obtain ⟨_, _, e', d, f⟩ := HY.out.get (j := kk + j) (by omega)
                cases e'
                rw [Nat.add_assoc, d]; rfl
              · intro j hj
                obtain ⟨_, _, e', d, f⟩ := HY.out.get (j := kk + j) (by omega)
                cases e'
                rw [Nat.add_assoc, f]
            have hk2i : ¬ (k2 : Int) < (bs.length - k : Nat) := by omega
            have hkkc : (kk : Int) ≤ c := by omega
            go_wp2_with fail
            go_ret
            exact ⟨⟨kk, hcc, rfl⟩, hfy.setCells (fun _ _ => rfl)⟩
      · have hD' : Hid (∀ i, i + 1 < k + 1 → bs.getD i 0 ≠ bs.getD (i + 1) 0) := Lib.hid (fun i hi => by
          rcases Nat.lt_or_ge (i + 1) k with h | h
          · exact hD.out i h
          · obtain rfl : k = i + 1 := by omega
            simpa using fun e => heq e.symm)
        generalize bs.getD k 0 = x at *
        generalize bs.getD (k - 1) 0 = y at *
        have hx : (x.toNat == y.toNat) = false := by
          simp only [beq_eq_false_iff_ne]; intro e; exact heq (UInt8.toNat.inj e)
        clear hown heq
        go_wp2_with fail
        go_quiet (fail)
        go_wp2
        go_roundw
        case rel => exact ⟨k + 1, by omega, by omega, by go_num, hD', hfr.drewN nq⟩
        case measure => simp [intOf]; omega
    · obtain rfl : k = bs.length := by omega
      exact absurd (fun i hi => hD.out i hi) hU.out
end Go.Proofs.Ytljldkknopmfhaa
