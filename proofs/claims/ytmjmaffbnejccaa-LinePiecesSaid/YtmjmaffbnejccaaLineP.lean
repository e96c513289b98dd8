/- LinePieces: the walk. -/
import Derived.Test.YtmjmaffbnejccaaLineB
namespace Go.Proofs.Ytmjmaffbnejccaa
open Go.RowKit

theorem Try.info31 : (Try.prog.info? 31).map (fun i => (i.zero, i.size, i.bytes)) = some (some (.slice none 0 0), 1, 24) := by kernel_rfl

/-- The pieces of one byte each. -/
def oneV (g off cap k : Nat) : List Value := (List.range k).map fun i => .slice (some ⟨g, off + i, none⟩) 1 (cap - i)
theorem oneV_succ (g off cap k : Nat) : oneV g off cap (k + 1) = oneV g off cap k ++ [.slice (some ⟨g, off + k, none⟩) 1 (cap - k)] := by simp [oneV, List.range_succ]
theorem oneV_len (g off cap k : Nat) : (oneV g off cap k).length = k := by simp [oneV]
theorem atP_one {w : World} {a : Option Addr} {g off cap : Nat} {b : List UInt8} (h : At w a (oneV g off cap b.length)) (hr : Row w g off (b.map bv)) : AtP w a (b.map fun x => [x]) := by
  intro hp
  obtain ⟨g1, o1, rfl, h1⟩ := h (by rw [oneV_len]; simpa using hp)
  refine ⟨g1, o1, rfl, fun i hi => ?_⟩
  have hi' : i < b.length := by simpa using hi
  refine ⟨some ⟨g, off + i, none⟩, cap - i, ?_, fun _ => ⟨g, off + i, rfl, ?_⟩⟩
  · have := h1.get i (.slice (some ⟨g, off + i, none⟩) 1 (cap - i)) (by simp [oneV, hi'])
    simpa using this
  · intro j hj
    obtain rfl : j = 0 := by simpa using hj
    have := hr.get i (bv b[i]) (by simp [hi'])
    simpa using this
theorem flat_one (b : List UInt8) : (b.map fun x => [x]).flatten = b := by
  induction b with
  | nil => rfl
  | cons x b ih => simp [ih]

set_option maxHeartbeats 2000000 in
set_option maxRecDepth 100000 in
theorem pieces_main (w : World) (a : Option Addr) (cap t : Nat) (b : List UInt8) (hcap : b.length ≤ cap) (hmax : cap ≤ maxLen) (hat : At w a (b.map bv)) (h1 : b.length ≤ 8192) (h2 : t ≤ b.length) :
    Calls Try.prog 6 #[.slice a b.length cap, .int .i64 t] w (TruePost w) := by
  unfold maxLen at hmax
  obtain ⟨j0, hj, jz0, jz1, jz2⟩ := info_parts Try.info31
  obtain ⟨k0, hk, kz0, kz1, kz2⟩ := info_parts Try.info5
  have hb1 : decide ((8192 : Int) < b.length) = false := decide_eq_false (by omega)
  have hb2 : decide ((t : Int) < 0) = false := decide_eq_false (by omega)
  have hb3 : decide (b.length < t) = false := decide_eq_false (by omega)
  go_enter Try.func6, Try.ntmps6
  go_wp2
  clear hb1 hb2 hb3
  go_loopw [5, 6] (fun v i wr => ∃ k : Nat, k ≤ b.length ∧ i = .int .i64 k ∧ (∀ g off, a = some ⟨g, off, none⟩ → 0 < b.length → OwnSl wr 31 1 v k (oneV g off cap k)) ∧ (b.length = 0 → v = .slice none 0 0) ∧ (∀ g, v.ownBlock = some g → w.heap.size ≤ g) ∧ Fr No w wr) (fun _ i _ => b.length - (intOf i).toNat)
  case atStart => exact ⟨0, Nat.zero_le _, rfl, fun _ _ _ _ => OwnSl.nil _ _ _, fun _ => rfl, by simp [Value.ownBlock], Fr.refl _ _⟩
  case round =>
    obtain ⟨k, hkl, rfl, hown, hnil, hob, hfr⟩ := hrel
    by_cases hlt : k < b.length
    · obtain ⟨g, off, rfl, hrow⟩ := hat (by simp; omega)
      have hown' := hown g off rfl (by omega)
      have hki : (k : Int) < cap := by omega
      have hk1 : (k : Int) + 1 ≤ cap := by omega
      have HB := Lib.hid hob; clear hob hown hnil
      have hz : w.heap.size ≤ wr.heap.size := hfr.size
      go_wp2_with (at_builtin; refine wpList_append_sl rfl (.tmp 33) (.tmp 39) 22 22 rfl 31 j0 (.slice none 0 0) 1 24 Try.underlying22 hj jz0 jz1 jz2 rfl (by decide) u5 _ _ rfl (hown'.fr ((Fr.refl No _).alloc _) (fun _ _ _ x => x)) _ 1 [.slice (some ⟨g, off + k, none⟩) 1 (cap - k)] rfl (src_slice Try.underlying22 (by simp) (fun _ => ⟨wr.heap.size, 0, rfl, row_at wr #[.slice (some ⟨g, off + k, none⟩) 1 (cap - k)] _ rfl _ rfl 31 (0, 0)⟩) (by simp [Value.oneCell'])) (by omega) (by omega) ?_; intro v2 w2 hown2 hfr2 hblk2)
      go_roundw
      case rel =>
        refine ⟨k + 1, by omega, by go_num, fun g' off' e _ => ?_, fun h => by omega, fun g' e => ?_, (hfr.alloc _).step hfr2 (fun i o hi x => by have := HB.out i x; omega)⟩
        · cases e
          rw [oneV_succ]; exact hown2
        · rcases hblk2 with h | h
          · exact HB.out g' (by rw [← h]; exact e)
          · rw [h] at e; injection e with e; simp at e; omega
      case measure => simp [intOf]; omega
    · obtain rfl : k = b.length := by omega
      have hP : ∃ a1 c1, u5 = .slice a1 b.length c1 ∧ AtP wr a1 (b.map fun x => [x]) := by
        rcases Nat.eq_zero_or_pos b.length with h0 | h0
        · obtain rfl := List.eq_nil_of_length_eq_zero h0
          exact ⟨none, 0, hnil rfl, fun h => by simp at h⟩
        · obtain ⟨g, off, rfl, hrow⟩ := hat (by simpa using h0)
          obtain ⟨a1, c1, hv, h1, _⟩ := (hown g off rfl h0).at
          exact ⟨a1, c1, hv, atP_one h1 (hrow.fr hfr (fun _ _ x => x))⟩
      obtain ⟨a1, c1, rfl, hP⟩ := hP
      clear hown hnil hob hlt
      have hat1 := hat.fr hfr (fun _ _ _ _ _ _ x => x)
      have hti : (t : Int) ≤ cap := by omega
      have htl : (t : Int) ≤ b.length := by omega
      have hs1 : ∀ W : World, (Instr.slice 31 (.slice a b.length cap) none (some (.int .i64 t)) none).run Try.prog W = .ok (.slice a t cap) W := fun W => run_slice_to W 31 5 a b.length cap t k0 Try.underlying31 hk (by omega)
      have hs2 : ∀ W : World, (Instr.slice 31 (.slice a b.length cap) (some (.int .i64 t)) none none).run Try.prog W = .ok (.slice (subA a cap t 1) (b.length - t) (cap - t)) W := fun W => by
        have := run_slice_from W 31 5 a b.length cap t k0 Try.underlying31 hk h2
        rwa [kz1] at this
      go_wp2_with (first
        | (go_at_call 19; refine (all_any _ _ _ [b] _ rfl (fun _ => ⟨wr.heap.size, 0, rfl, fun i hi => by
            obtain rfl : i = 0 := by simpa using hi
            exact ⟨a, cap, (row_at wr #[.slice a b.length cap] _ rfl _ rfl 31 (0, 0)).get 0 _ rfl, hat1.fr ((Fr.refl No _).alloc _) (fun _ _ _ _ _ _ x => x)⟩⟩) (by simp; omega) (by simp)).mono ?_; rw [show ([b] : List (List UInt8)).flatten = b from by simp]; rintro e w1 ⟨a3, n3, c3, rfl, hn3, ha3, hfr3⟩))
      have hat3 := (hat1.fr ((Fr.refl No _).alloc (.cells #[.slice a b.length cap] 31)) (fun _ _ _ _ _ _ x => x)).fr hfr3 (fun _ _ _ _ _ _ x => x)
      have HP2 : Hid (∀ W : World, Fr No w1 W → AtP (W.alloc (.cells #[.slice a t cap, .slice (subA a cap t 1) (b.length - t) (cap - t)] 31)) (some ⟨W.heap.size, 0, none⟩) [b.take t, b.drop t]) := Lib.hid (by
        intro W hW _
        have hatW := (hat3.fr hW (fun _ _ _ _ _ _ x => x)).fr ((Fr.refl No _).alloc (.cells #[.slice a t cap, .slice (subA a cap t 1) (b.length - t) (cap - t)] 31)) (fun _ _ _ _ _ _ x => x)
        refine ⟨_, _, rfl, fun i hi => ?_⟩
        match i, hi with
        | 0, _ => exact ⟨a, cap, by simp [Nat.min_eq_left h2], by have := hatW.take t; rwa [← List.map_take] at this⟩
        | 1, _ => exact ⟨subA a cap t 1, cap - t, by simp, by have := hatW.sub (cap := cap) (lo := t) (by simpa using hcap); rwa [← List.map_drop] at this⟩)
      go_region_law (go_simp; go_at_call 19; refine (all_any _ _ _ [b.take t, b.drop t] _ rfl (HP2.out w1.drew (Fr.refl No _).drew) (by simp; omega) (by simp)).mono ?_; rw [show ([b.take t, b.drop t] : List (List UInt8)).flatten = b from by simp]; rintro e w2 ⟨a4, n4, c4, rfl, hn4, ha4, hfr4⟩)
      subst hn3; subst hn4
      have k2 : Fr No wr w2 := ((((Fr.refl No wr).alloc (.cells #[.slice a b.length cap] 31)).trans hfr3).drew.alloc (.cells #[.slice a t cap, .slice (subA a cap t 1) (b.length - t) (cap - t)] 31)).trans hfr4
      have k1 : Fr No w1 w2 := ((Fr.refl No w1).drew.alloc (.cells #[.slice a t cap, .slice (subA a cap t 1) (b.length - t) (cap - t)] 31)).trans hfr4
      have ha3 := ha3.fr k1 (fun _ _ _ _ _ _ x => x)
      have hP := hP.fr k2 (fun _ _ _ x => x)
      have hll : (wholeM b).1.length ≤ 1000000 := by have := joinM_ge (wholeM b).1; have := whole_jlen b; omega
      have K := Lib.hid (hfr.trans k2)
      clear hfr hfr3 hfr4 k1 k2 hat1 hat3
      go_wp2_with (first
        | (go_at_call 19; refine (all_any _ _ _ (b.map fun x => [x]) _ (by simp) hP (by rw [flat_one]; omega) (by simp; omega)).mono ?_; rw [flat_one]; rintro e w5 ⟨a5, n5, c5, rfl, hn5, ha5, hfr5⟩; subst hn5; have ha3 := ha3.fr hfr5 (fun _ _ _ _ _ _ x => x); have ha4 := ha4.fr hfr5 (fun _ _ _ _ _ _ x => x))
        | (go_at_call_of 14 (Value.slice a4 (wholeM b).1.length c4); refine (same_true _ _ _ _ _ _ (wholeM b).1 _ rfl rfl ha3 ha4 hll).mono ?_; rintro e w6 ⟨rfl, hfr6⟩; have ha3 := ha3.fr hfr6 (fun _ _ _ _ _ _ x => x); have ha5 := ha5.fr hfr6 (fun _ _ _ _ _ _ x => x))
        | (go_at_call_of 14 (Value.slice a5 (wholeM b).1.length c5); refine (same_true _ _ _ _ _ _ (wholeM b).1 _ rfl rfl ha3 ha5 hll).mono ?_; rintro e w7 ⟨rfl, hfr7⟩)
        | (go_at_call 9; refine (awake_any _).mono ?_; rintro e w8 ⟨rfl, hfr8⟩))
      go_ret
      exact ⟨rfl, (((K.out.trans hfr5).trans hfr6).trans hfr7).trans hfr8⟩

set_option maxHeartbeats 1000000 in
theorem walk_linePieces (w : World) {v : Value} (b : List UInt8) (hv : IsB w v b) (t : Int) (_ : (Lit.int .i64 t).wf = true) : Calls Try.prog 6 #[v, .int .i64 t] w (TruePost w) := by
  obtain ⟨a, cap, rfl, hcap, hmax, hat, _⟩ := hv
  by_cases h1 : b.length ≤ 8192 ∧ 0 ≤ t ∧ t ≤ b.length
  · obtain ⟨h1, h2, h3⟩ := h1
    obtain ⟨t, rfl⟩ := Int.eq_ofNat_of_zero_le h2
    exact pieces_main w a cap t b hcap hmax hat h1 (by omega)
  · by_cases h2 : 8192 < b.length
    · have hb1 : decide ((8192 : Int) < b.length) = true := decide_eq_true (by omega)
      clear h1
      go_enter Try.func6, Try.ntmps6
      go_wp2_with (go_at_call 9; refine (awake_any _).mono ?_; rintro e w1 ⟨rfl, hfr⟩)
      go_ret
      exact ⟨rfl, hfr⟩
    · have hb1 : decide ((8192 : Int) < b.length) = false := decide_eq_false (by omega)
      by_cases h3 : t < 0
      · have hb2 : decide (t < 0) = true := decide_eq_true h3
        clear h1
        go_enter Try.func6, Try.ntmps6
        go_wp2_with (go_at_call 9; refine (awake_any _).mono ?_; rintro e w1 ⟨rfl, hfr⟩)
        go_ret
        exact ⟨rfl, hfr⟩
      · have hb2 : decide (t < 0) = false := decide_eq_false h3
        have hb3 : decide ((b.length : Int) < t) = true := decide_eq_true (by omega)
        clear h1
        go_enter Try.func6, Try.ntmps6
        go_wp2_with (go_at_call 9; refine (awake_any _).mono ?_; rintro e w1 ⟨rfl, hfr⟩)
        go_ret
        exact ⟨rfl, hfr⟩
end Go.Proofs.Ytmjmaffbnejccaa
