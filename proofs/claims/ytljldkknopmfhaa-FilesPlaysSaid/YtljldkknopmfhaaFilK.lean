/- FilesKeeps: the laws' heavy and what; what is kept. -/
import Derived.Test.YtljldkknopmfhaaFilG
import Derived.Test.YtljldkknopmfhaaLiftG
namespace Go.Proofs.Ytljldkknopmfhaa
open Go.RowKit Go.Maps Go

/-- Is more handed in than is gone through? -/
def heavyF (S : List (Int × Int)) (l : List Cl) : Prop := 300 < S.length ∨ 300 < l.length ∨ ∃ x ∈ l, 3000 < x.b.length
def BoolPost (w : World) (b : Bool) (e : Ending) (w' : World) : Prop := e = .returned (.bool b) ∧ w = w'
theorem cl_len (x : Cl) : x.cells.length = 5 := rfl
theorem cl_cells {w : World} {g off : Nat} {l : List Cl} (h : Row w g off (l.flatMap Cl.cells)) {k : Nat} (hk : k < l.length) :
    w.cell? ⟨g, off + k * 5, none⟩ = some (.int .i64 (l[k]).what) ∧ w.cell? ⟨g, off + k * 5 + 1, none⟩ = some (.int .i64 (l[k]).no) ∧ w.cell? ⟨g, off + k * 5 + 2, none⟩ = some (.int .i64 (l[k]).pos) ∧
    w.cell? ⟨g, off + k * 5 + 3, none⟩ = some (.int .i64 (l[k]).most) ∧ w.cell? ⟨g, off + k * 5 + 4, none⟩ = some (.slice (l[k]).a (l[k]).b.length (l[k]).c) :=
  ⟨h.flat cl_len hk (j := 0) (by decide) rfl, h.flat cl_len hk (j := 1) (by decide) rfl, h.flat cl_len hk (j := 2) (by decide) rfl, h.flat cl_len hk (j := 3) (by decide) rfl, h.flat cl_len hk (j := 4) (by decide) rfl⟩
open Classical in
set_option maxHeartbeats 1000000 in
set_option maxRecDepth 100000 in
theorem heavyF_any (S : List (Int × Int)) (l : List Cl) (sa : Option Addr) (sc : Nat) (la : Option Addr) (lc : Nat) (w : World) (hl : At w la (l.flatMap Cl.cells)) :
    Calls Try.prog 16 #[.slice sa S.length sc, .slice la l.length lc] w (BoolPost w (decide (heavyF S l))) := by
  by_cases h1 : 300 < S.length
  · have e : decide (heavyF S l) = true := decide_eq_true (.inl h1)
    rw [e]
    have h1i : (300 : Int) < S.length := by omega
    clear e
    go_enter Try.func16, Try.ntmps16
    go_wp2
    go_ret
    exact ⟨rfl, rfl⟩
  · have h1i : ¬ (300 : Int) < S.length := by omega
    have h1d : decide ((300 : Int) < S.length) = false := decide_eq_false h1i
    by_cases h2 : 300 < l.length
    · have e : decide (heavyF S l) = true := decide_eq_true (.inr (.inl h2))
      rw [e]
      have h2i : (300 : Int) < l.length := by omega
      clear e
      go_enter Try.func16, Try.ntmps16
      go_wp2
      go_ret
      exact ⟨rfl, rfl⟩
    · have h2i : ¬ (300 : Int) < l.length := by omega
      have h2d : decide ((300 : Int) < l.length) = false := decide_eq_false h2i
      have HL := Lib.hid hl; clear hl
      have HB := Lib.hid (show (∀ x ∈ l, x.b.length ≤ 3000) → ¬ heavyF S l from fun h => by
        rintro (h3 | h3 | ⟨x, hx, h3⟩)
        · exact h1 h3
        · exact h2 h3
        · have := h x hx; omega)
      have HT := Lib.hid (show ∀ x ∈ l, 3000 < x.b.length → heavyF S l from fun x hx h => .inr (.inr ⟨x, hx, h⟩))
      go_enter Try.func16, Try.ntmps16
      go_wp2
      go_loop [5] (fun i => ∃ k : Nat, k ≤ l.length ∧ i = .int .i64 k ∧ Hid (∀ x ∈ l.take k, x.b.length ≤ 3000)) (fun i => l.length - (intOf i).toNat)
      case atStart => exact ⟨0, Nat.zero_le _, rfl, Lib.hid (by simp)⟩
      case round =>
        obtain ⟨k, hk, rfl, HK⟩ := hrel
        by_cases hlt : k < l.length
        · obtain ⟨g, off, rfl, hr⟩ := HL.out.flat cl_len (by decide) (by omega)
          obtain ⟨_, _, _, _, c4⟩ := cl_cells hr hlt
          have hki : (k : Int) < l.length := by omega
          have hmem := List.getElem_mem hlt
          have htk := List.take_succ_eq_append_getElem hlt
          have HT2 := Lib.hid (HT.out _ hmem)
          have HNX := Lib.hid (show (l[k]).b.length ≤ 3000 → ∀ x ∈ l.take (k + 1), x.b.length ≤ 3000 from fun h x hx => by
            rw [htk] at hx
            rcases List.mem_append.1 hx with hx | hx
            · exact HK.out x hx
            · simp at hx; subst hx; exact h)
          clear hmem htk hr
          generalize l[k] = x at *
          by_cases hx : 3000 < x.b.length
          · have hxi : (3000 : Int) < x.b.length := by omega
            have E := Lib.hid (decide_eq_true (HT2.out hx))
            go_wp2
            go_ret
            exact ⟨by rw [E.out]; rfl, rfl⟩
          · have hxi : ¬ (3000 : Int) < x.b.length := by omega
            have HN2 := Lib.hid (HNX.out (by omega))
            go_wp2
            go_round
            case rel => exact ⟨k + 1, by omega, by go_num, HN2⟩
            case measure => simp [intOf]; omega
        · obtain rfl : k = l.length := by omega
          have hk2 := HK.out
          rw [List.take_length] at hk2
          have E := Lib.hid (decide_eq_false (HB.out hk2))
          go_wp2
          go_ret
          exact ⟨by rw [E.out]; rfl, rfl⟩
/-- What a call does. -/
def whatM (n : Int) : Int := (n.tmod 4 + 4) % 4
theorem tmod_low (n : Int) : -4 < n.tmod 4 := by
  rcases Int.le_total 0 n with h | h
  · have := Int.tmod_nonneg 4 h; omega
  · have := Int.tmod_lt_of_pos (-n) (show (0 : Int) < 4 by decide)
    rw [Int.neg_tmod] at this; omega
theorem whatM_range (n : Int) : whatM n = 0 ∨ whatM n = 1 ∨ whatM n = 2 ∨ whatM n = 3 := by
  unfold whatM
  have h1 := Int.tmod_lt_of_pos n (show (0 : Int) < 4 by decide)
  have h2 := tmod_low n
  omega
set_option maxRecDepth 100000 in
theorem what_any (x : Cl) (w : World) (hw : (Lit.int .i64 x.what).wf = true) : Calls Try.prog 19 #[.agg #[.int .i64 x.what, .int .i64 x.no, .int .i64 x.pos, .int .i64 x.most, .slice x.a x.b.length x.c]] w fun e w' => e = .returned (.int .i64 (whatM x.what)) ∧ Fr No w w' := by
  have hb := i64_bounds hw
  have h1 := Int.tmod_lt_of_pos x.what (show (0 : Int) < 4 by decide)
  have h2 := tmod_low x.what
  unfold whatM
  go_enter Try.func19, Try.ntmps19
  go_wp2
  go_ret
  exact ⟨rfl, (Fr.refl _ _).alloc _⟩
end Go.Proofs.Ytljldkknopmfhaa
