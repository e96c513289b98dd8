/- The laws' guards: heavy, fit. -/
import Derived.Test.YtppgojcfgdooiaaChk
import Derived.Test.YtppgojcfgdooiaaStrm
namespace Go.Proofs.Ytppgojcfgdooiaa
open Go.RowKit

/-- Slices of numbers in a row: where, how many, the capacity. -/
def ccells (l : List (Option Addr × Nat × Nat)) : List Value := l.map fun x => .slice x.1 x.2.1 x.2.2
def heavyB (A B : List UInt8) (ss : List Strm) (cs : List (Option Addr × Nat × Nat)) : Bool :=
  decide (1000 < A.length ∨ 1000 < B.length ∨ 8 < ss.length ∨ (∃ s ∈ ss, 2000 < s.b.length) ∨ (∃ c ∈ cs, 3000 < c.2.1))
set_option maxHeartbeats 4000000 in
set_option maxRecDepth 100000 in
theorem heavy_any (k n : Int) (aA aB ai ac : Option Addr) (A B : List UInt8) (cA cB ci cc : Nat) (ss : List Strm) (cs : List (Option Addr × Nat × Nat)) (w : World) (hs : At w ai (scells ss)) (hc : At w ac (ccells cs)) (hcl : cs.length ≤ 10) :
    Calls Try.prog 10 #[.agg #[.int .i64 k, .int .i64 n, .slice aA A.length cA, .slice aB B.length cB], .slice ai ss.length ci, .slice ac cs.length cc] w (RPost w (heavyB A B ss cs)) := by
  have HS := Lib.hid (at_no hs ((Fr.refl No w).alloc (.cells #[.int .i64 k, .int .i64 n, .slice aA A.length cA, .slice aB B.length cB] 24)))
  have HC := Lib.hid (at_no hc ((Fr.refl No w).alloc (.cells #[.int .i64 k, .int .i64 n, .slice aA A.length cA, .slice aB B.length cB] 24)))
  clear hs hc
  by_cases h1 : 1000 < A.length
  · have e : heavyB A B ss cs = true := by simp [heavyB, h1]
    rw [e]; clear e
    have h1' : (1000 : Int) < A.length := by omega
    clear h1
    go_enter Try.func10, Try.ntmps10
    go_wp2
    go_ret
    exact ⟨rfl, (Fr.refl _ _).alloc _⟩
  have h1' : ¬ (1000 : Int) < A.length := by omega
  by_cases h2 : 1000 < B.length
  · have e : heavyB A B ss cs = true := by simp [heavyB, h2]
    rw [e]; clear e
    have h2' : (1000 : Int) < B.length := by omega
    clear h2 h1
    go_enter Try.func10, Try.ntmps10
    go_wp2
    go_ret
    exact ⟨rfl, (Fr.refl _ _).alloc _⟩
  have h2' : ¬ (1000 : Int) < B.length := by omega
  by_cases h3 : 8 < ss.length
  · have e : heavyB A B ss cs = true := by simp [heavyB, h3]
    rw [e]; clear e
    have h3' : (8 : Int) < ss.length := by omega
    clear h3 h2 h1
    go_enter Try.func10, Try.ntmps10
    go_wp2
    go_ret
    exact ⟨rfl, (Fr.refl _ _).alloc _⟩
  have h3' : ¬ (8 : Int) < ss.length := by omega
  have HT1 : Hid (∀ s ∈ ss, 2000 < s.b.length → heavyB A B ss cs = true) := Lib.hid (fun s hs h => by unfold heavyB; simp only [decide_eq_true_eq]; exact .inr (.inr (.inr (.inl ⟨s, hs, h⟩))))
  have HT2 : Hid (∀ c ∈ cs, 3000 < c.2.1 → heavyB A B ss cs = true) := Lib.hid (fun c hc h => by unfold heavyB; simp only [decide_eq_true_eq]; exact .inr (.inr (.inr (.inr ⟨c, hc, h⟩))))
  have HF : Hid ((∀ s ∈ ss, ¬ 2000 < s.b.length) → (∀ c ∈ cs, ¬ 3000 < c.2.1) → heavyB A B ss cs = false) := Lib.hid (fun ha hb => by
    unfold heavyB; simp only [decide_eq_false_iff_not]
    rintro (h | h | h | ⟨s, hs, h⟩ | ⟨c, hc, h⟩)
    · exact h1 h
    · exact h2 h
    · exact h3 h
    · exact ha s hs h
    · exact hb c hc h)
  have hss : ss.length ≤ 8 := by omega
  clear h1 h2 h3
  generalize heavyB A B ss cs = r at *
  go_enter Try.func10, Try.ntmps10
  go_wp2
  go_loop [7] (fun i => ∃ j : Nat, j ≤ ss.length ∧ i = .int .i64 j ∧ Hid (∀ s ∈ ss.take j, ¬ 2000 < s.b.length)) (fun i => ss.length - (intOf i).toNat)
  case atStart => exact ⟨0, Nat.zero_le _, rfl, Lib.hid (by simp)⟩
  case round =>
    obtain ⟨j, hj, rfl, HJ⟩ := hrel
    by_cases hlt : j < ss.length
    · have hji : (j : Int) < ss.length := by omega
      obtain ⟨g, off, rfl, hrow⟩ := HS.out (by rw [scells_length]; omega)
      have hcell := hrow.get (j * 5 + 0) _ (scells_get ss j 0 hlt _ rfl)
      rw [Nat.add_zero] at hcell
      by_cases hb : 2000 < ss[j].b.length
      · have hr := HT1.out ss[j] (List.getElem_mem _) hb
        have hb' : (2000 : Int) < ss[j].b.length := by omega
        have HR := Lib.hid hr; clear hr
        generalize ss[j] = x at *
        clear hb
        go_wp2
        go_ret
        rw [HR.out]
        exact ⟨rfl, (Fr.refl _ _).alloc _⟩
      · have htk : ss.take (j + 1) = ss.take j ++ [ss[j]] := List.take_succ_eq_append_getElem hlt
        have hb' : ¬ (2000 : Int) < ss[j].b.length := by omega
        have HK := Lib.hid htk; clear htk
        have HB := Lib.hid hb; clear hb
        generalize ss[j] = x at *
        go_wp2
        go_round
        case rel =>
          refine ⟨j + 1, by omega, by go_num, Lib.hid (fun s hs => ?_)⟩
          rw [HK.out] at hs
          rcases List.mem_append.1 hs with h | h
          · exact HJ.out s h
          · simp at h; subst h; exact HB.out
        case measure => simp [intOf]; omega
    · obtain rfl : j = ss.length := by omega
      rw [List.take_length] at HJ
      go_wp2
      go_loop [8] (fun i => ∃ q : Nat, q ≤ cs.length ∧ i = .int .i64 q ∧ Hid (∀ c ∈ cs.take q, ¬ 3000 < c.2.1)) (fun i => cs.length - (intOf i).toNat)
      case atStart => exact ⟨0, Nat.zero_le _, rfl, Lib.hid (by simp)⟩
      case round =>
        obtain ⟨q, hq, rfl, HQ⟩ := hrel
        by_cases hqt : q < cs.length
        · have hqi : (q : Int) < cs.length := by omega
          obtain ⟨g, off, rfl, hrow⟩ := HC.out (by simp [ccells]; omega)
          have hcell := hrow.get q (.slice cs[q].1 cs[q].2.1 cs[q].2.2) (by simp [ccells, hqt])
          by_cases hb : 3000 < cs[q].2.1
          · have hr := HT2.out cs[q] (List.getElem_mem _) hb
            have hb' : (3000 : Int) < cs[q].2.1 := by omega
            have HR := Lib.hid hr; clear hr
            generalize cs[q] = x at *
            clear hb
            go_wp2
            go_ret
            rw [HR.out]
            exact ⟨rfl, (Fr.refl _ _).alloc _⟩
          · have htk : cs.take (q + 1) = cs.take q ++ [cs[q]] := List.take_succ_eq_append_getElem hqt
            have hb' : ¬ (3000 : Int) < cs[q].2.1 := by omega
            have HK := Lib.hid htk; clear htk
            have HB := Lib.hid hb; clear hb
            generalize cs[q] = x at *
            go_wp2
            go_round
            case rel =>
              refine ⟨q + 1, by omega, by go_num, Lib.hid (fun s hs => ?_)⟩
              rw [HK.out] at hs
              rcases List.mem_append.1 hs with h | h
              · exact HQ.out s h
              · simp at h; subst h; exact HB.out
            case measure => simp [intOf]; omega
        · obtain rfl : q = cs.length := by omega
          rw [List.take_length] at HQ
          have hr := HF.out HJ.out HQ.out
          have HR := Lib.hid hr; clear hr
          go_wp2
          go_ret
          rw [HR.out]
          exact ⟨rfl, (Fr.refl _ _).alloc _⟩
/-- May they be parameters of kind K, with as many inputs? -/
def fitB (K k n : Int) (A B : List UInt8) (l : Nat) : Bool := decide (chkR k n A B = 0 ∧ k = K ∧ (l : Int) = insR k n A B)
end Go.Proofs.Ytppgojcfgdooiaa

/- The laws' guard fit. -/
namespace Go.Proofs.Ytppgojcfgdooiaa
open Go.RowKit

set_option maxRecDepth 100000 in
theorem fit_any (k n : Int) (aA aB ai : Option Addr) (A B : List UInt8) (cA cB l ci : Nat) (w : World) (hA : At w aA (A.map bv)) (hl : A.length ≤ 100000000) (hl2 : B.length ≤ 100000000) :
    Calls Try.prog 16 #[.agg #[.int .i64 k, .int .i64 n, .slice aA A.length cA, .slice aB B.length cB], .slice ai l ci] w (RPost w (fitB 3 k n A B l)) := by
  have hc := fun (W : World) (hW : Fr No w W) => rarity_any k n aA aB A B cA cB W (at_no hA hW) hl hl2
  unfold fitB
  generalize chkR k n A B = r at *
  generalize insR k n A B = i at *
  generalize outsR k n A B = o at *
  have HC := Lib.hid hc; clear hc
  by_cases h1 : r = 0
  · by_cases h2 : k = 3
    · by_cases h3 : (l : Int) = i
      · rw [show decide (r = 0 ∧ k = 3 ∧ (l : Int) = i) = true from by simp [h1, h2, h3]]
        have h1b : (r == 0) = true := by simp [h1]
        have h2b : (k == 3) = true := by simp [h2]
        have h3b : ((l : Int) == i) = true := by simp [h3]
        clear h1 h2 h3
        go_enter Try.func16, Try.ntmps16
        go_wp2_with (go_at_call 32; refine (HC.out _ ((Fr.refl No w).alloc _)).mono ?_; rintro e1 w1 ⟨rfl, hfr1⟩; obtain ⟨b1, z1⟩ := box_at hfr1; have b10 := b1 0)
        go_ret
        exact ⟨rfl, ((Fr.refl _ _).alloc _).trans hfr1⟩
      · rw [show decide (r = 0 ∧ k = 3 ∧ (l : Int) = i) = false from by simp [h3]]
        have h1b : (r == 0) = true := by simp [h1]
        have h2b : (k == 3) = true := by simp [h2]
        have h3b : ((l : Int) == i) = false := by simpa using h3
        clear h1 h2 h3
        go_enter Try.func16, Try.ntmps16
        go_wp2_with (go_at_call 32; refine (HC.out _ ((Fr.refl No w).alloc _)).mono ?_; rintro e1 w1 ⟨rfl, hfr1⟩; obtain ⟨b1, z1⟩ := box_at hfr1; have b10 := b1 0)
        go_ret
        exact ⟨rfl, ((Fr.refl _ _).alloc _).trans hfr1⟩
    · rw [show decide (r = 0 ∧ k = 3 ∧ (l : Int) = i) = false from by simp [h2]]
      have h1b : (r == 0) = true := by simp [h1]
      have h2b : (k == 3) = false := by simpa using h2
      clear h1 h2
      go_enter Try.func16, Try.ntmps16
      go_wp2_with (go_at_call 32; refine (HC.out _ ((Fr.refl No w).alloc _)).mono ?_; rintro e1 w1 ⟨rfl, hfr1⟩; obtain ⟨b1, z1⟩ := box_at hfr1; have b10 := b1 0)
      go_ret
      exact ⟨rfl, ((Fr.refl _ _).alloc _).trans hfr1⟩
  · rw [show decide (r = 0 ∧ k = 3 ∧ (l : Int) = i) = false from by simp [h1]]
    have h1b : (r == 0) = false := by simpa using h1
    clear h1
    go_enter Try.func16, Try.ntmps16
    go_wp2_with (go_at_call 32; refine (HC.out _ ((Fr.refl No w).alloc _)).mono ?_; rintro e1 w1 ⟨rfl, hfr1⟩; obtain ⟨b1, z1⟩ := box_at hfr1; have b10 := b1 0)
    go_ret
    exact ⟨rfl, ((Fr.refl _ _).alloc _).trans hfr1⟩
/-- What fit parameters are. -/
theorem fit_says (k n : Int) (A B : List UInt8) (l : Nat) (hn : n ≤ 9223372036854775807) (h : fitB 3 k n A B l = true) : k = 3 ∧ l = 1 ∧ chkR 3 n A B = 0 ∧ fchk 3 3 n A B = 0 ∧ 0 ≤ n ∧ n ≤ 1000000000 := by
  simp only [fitB, decide_eq_true_eq] at h
  obtain ⟨h1, rfl, h3⟩ := h
  obtain ⟨hk, hrow⟩ := chkR_kind 3 n A B h1
  have hi : insR 3 n A B = 1 := by unfold insR; rw [if_neg (by simp [h1])]; rfl
  have hc := (agree 3 n A B hn).1
  refine ⟨rfl, by omega, h1, ?_, ?_⟩
  · unfold fchk; rw [hc, h1]; simp
  · unfold rowR withinB at hrow
    simp at hrow
    omega
end Go.Proofs.Ytppgojcfgdooiaa
