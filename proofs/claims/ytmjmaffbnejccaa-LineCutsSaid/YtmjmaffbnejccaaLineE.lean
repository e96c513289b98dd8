/- LineCuts: the walk. -/
import Derived.Test.YtmjmaffbnejccaaLineC
import Derived.Test.YtmjmaffbnejccaaLift
namespace Go.Proofs.Ytmjmaffbnejccaa
open Go.RowKit

theorem flat_succ (ps : List (List UInt8)) (k : Nat) (h : k < ps.length) : (ps.take (k + 1)).flatten.length = (ps.take k).flatten.length + ps[k].length := by
  rw [joined_take ps k h, List.length_append]

def BoolPost (b : Bool) (w : World) (e : Ending) (w' : World) : Prop := e = .returned (.bool b) ∧ w = w'
theorem long_false (a : Option Addr) (c : Nat) (ps : List (List UInt8)) (w : World) (ha : AtP w a ps) (h1 : ps.length ≤ 300) (h2 : ps.flatten.length ≤ 8192) :
    Calls Try.prog 8 #[.slice a ps.length c] w (BoolPost false w) := by
  have hb : decide ((300 : Int) < ps.length) = false := decide_eq_false (by omega)
  have hl : (ps.length : Int) ≤ 300 := by omega
  go_enter Try.func8, Try.ntmps8
  go_wp2
  go_loop [3, 4] (fun n i => ∃ k : Nat, k ≤ ps.length ∧ i = .int .i64 k ∧ n = .int .i64 (ps.take k).flatten.length) (fun _ i => ps.length - (intOf i).toNat)
  case atStart => exact ⟨0, Nat.zero_le _, rfl, rfl⟩
  case round =>
    obtain ⟨k, hk, rfl, rfl⟩ := hrel
    by_cases hlt : k < ps.length
    · obtain ⟨g, off, rfl, hrow⟩ := ha (by omega)
      obtain ⟨xa, c1, hcell, _⟩ := hrow k hlt
      have hf := flat_succ ps k hlt
      have hle := joined_le ps (k + 1)
      generalize ps[k] = p at *
      generalize (ps.take k).flatten.length = t0 at *
      have hb1 : (t0 : Int) + p.length ≤ 8192 := by omega
      have HF := Lib.hid hf; clear hf hle
      go_wp2
      go_round
      case rel => exact ⟨k + 1, by omega, by go_num, by rw [HF.out]; go_num⟩
      case measure => simp [intOf]; omega
    · go_wp2
      go_ret
      exact ⟨rfl, rfl⟩
theorem long_true (a : Option Addr) (c : Nat) (ps : List (List UInt8)) (w : World) (ha : AtP w a ps) (hm : ps.length ≤ c) (hc : c ≤ maxLen) (hsz : ∀ p ∈ ps, p.length ≤ 140737488351232) (h : ¬ (ps.length ≤ 300 ∧ ps.flatten.length ≤ 8192)) :
    Calls Try.prog 8 #[.slice a ps.length c] w (BoolPost true w) := by
  unfold maxLen at hc
  have HSZ := Lib.hid hsz; clear hsz
  by_cases h1 : 300 < ps.length
  · have hb : decide ((300 : Int) < ps.length) = true := decide_eq_true (by omega)
    clear h
    go_enter Try.func8, Try.ntmps8
    go_wp2
    go_ret
    exact ⟨rfl, rfl⟩
  have hb : decide ((300 : Int) < ps.length) = false := decide_eq_false (by omega)
  have hl : (ps.length : Int) ≤ 300 := by omega
  have h2 : 8192 < ps.flatten.length := by omega
  clear h
  go_enter Try.func8, Try.ntmps8
  go_wp2
  go_loop [3, 4] (fun n i => ∃ k : Nat, k ≤ ps.length ∧ i = .int .i64 k ∧ n = .int .i64 (ps.take k).flatten.length ∧ (ps.take k).flatten.length ≤ 8192) (fun _ i => ps.length - (intOf i).toNat)
  case atStart => exact ⟨0, Nat.zero_le _, rfl, rfl, by simp⟩
  case round =>
    obtain ⟨k, hk, rfl, rfl, ht⟩ := hrel
    by_cases hlt : k < ps.length
    · obtain ⟨g, off, rfl, hrow⟩ := ha (by omega)
      obtain ⟨xa, c1, hcell, _⟩ := hrow k hlt
      have hf := flat_succ ps k hlt
      have hps := HSZ.out ps[k] (by simp)
      generalize ps[k] = p at *
      generalize (ps.take k).flatten.length = t0 at *
      have hb0 : (p.length : Int) ≤ 140737488351232 := by omega
      have ht' : (t0 : Int) ≤ 8192 := by omega
      have HF := Lib.hid hf; clear hf
      by_cases hx : 8192 < t0 + p.length
      · have hx1 : decide ((8192 : Int) < t0 + p.length) = true := decide_eq_true (by omega)
        go_wp2
        go_ret
        exact ⟨rfl, rfl⟩
      · have hx1 : decide ((8192 : Int) < t0 + p.length) = false := decide_eq_false (by omega)
        go_wp2
        go_round
        case rel => exact ⟨k + 1, by omega, by go_num, by rw [HF.out]; go_num, by rw [HF.out]; omega⟩
        case measure => simp [intOf]; omega
    · exact absurd ht (by rw [show k = ps.length from by omega, List.take_length]; omega)

theorem cutM_fail : ∀ (b cs : List UInt8) (acc : List (List UInt8)), (cutM b cs acc).2.2 = true → (cutM b cs acc).2.1 = []
  | [], cs, acc => by simp [cutM]
  | x :: xs, cs, acc => by
    rw [cutM]
    split
    · exact cutM_fail xs [] _
    · split
      · simp
      · exact cutM_fail xs _ acc
/-- How both splitters stand: the line that is begun, all bytes that came since the last rest, the lines of these. -/
structure CSt (w wr : World) (cs all : List UInt8) (v : Value) (ls : List (List UInt8)) (f : Bool) : Prop where
  spl : SplAt wr w.heap.size 0 cs f
  rs : RSpl wr (w.heap.size + 1) v all ls.length f
  ob : ∀ g, v.ownBlock = some g → w.heap.size + 1 < g
  M : cutM all [] [] = (ls, cs, f)
  fr : Fr No w wr
theorem CSt.step {w wr w' : World} {cs all : List UInt8} {v : Value} {ls : List (List UInt8)} {f : Bool} {S : Nat → Nat → Prop} (h : CSt w wr cs all v ls f) (k : Fr S wr w') (hS : ∀ b o, S b o → wr.heap.size ≤ b) : CSt w w' cs all v ls f := by
  have h1 := h.spl.lt
  have h2 := h.rs.lt
  exact ⟨h.spl.fr k (fun i _ x => by have := hS _ _ x; omega), h.rs.fr k (fun o x => by have := hS _ _ x; omega) (fun b o e x => by have := hS _ _ x; have := h.rs.own.lt b e; omega), h.ob, h.M,
    h.fr.step k (fun i o hi x => by have := hS _ _ x; omega)⟩
theorem CSt.step2 {w wr w' : World} {cs all : List UInt8} {v : Value} {ls : List (List UInt8)} {f : Bool} {S : Nat → Nat → Prop} (h : CSt w wr cs all v ls f) (k : Fr S wr w') (hS : ∀ b o, S b o → b ≠ w.heap.size ∧ b ≠ w.heap.size + 1 ∧ w.heap.size ≤ b ∧ v.ownBlock ≠ some b) : CSt w w' cs all v ls f :=
  ⟨h.spl.fr k (fun i _ x => (hS _ _ x).1 rfl), h.rs.fr k (fun o x => (hS _ _ x).2.1 rfl) (fun b o e x => (hS _ _ x).2.2.2 e), h.ob, h.M, h.fr.step k (fun i o hi x => by have := (hS _ _ x).2.2.1; omega)⟩
theorem joined_le2 (ps : List (List UInt8)) (k : Nat) : (ps.take k).flatten.length ≤ (ps.take (k + 1)).flatten.length := by
  have := joined_le (ps.take (k + 1)) k
  rwa [List.take_take, Nat.min_eq_left (by omega)] at this
/-- The program's rest has been asked for. -/
theorem CSt.rest1 {w wr w' : World} {cs all : List UInt8} {v : Value} {ls : List (List UInt8)} {f : Bool} (h : CSt w wr cs all v ls f) (k : Fr (SplS w.heap.size 0) wr w') : RSpl w' (w.heap.size + 1) v all ls.length f ∧ Fr No w w' := by
  exact ⟨h.rs.fr k (fun o x => by have := x.1; omega) (fun b o e x => by have := x.1; have := h.ob b e; omega), h.fr.step k (fun i o hi x => by have := x.1; omega)⟩
/-- And the document's. -/
theorem CSt.rest2 {w wr w1 w2 : World} {cs all : List UInt8} {v : Value} {ls : List (List UInt8)} {f : Bool} (h : CSt w wr cs all v ls f) (hspl : SplAt w1 w.heap.size 0 [] f) (hf : Fr No w w1) (k : Fr (fun b' _ => b' = w.heap.size + 1) w1 w2)
    (hR : (cs = [] ∧ RSpl w2 (w.heap.size + 1) v all ls.length f) ∨ (cs ≠ [] ∧ RSpl w2 (w.heap.size + 1) (.slice none 0 0) [] 0 f)) :
    ∃ all' v' ls', CSt w w2 [] all' v' ls' f ∧ all'.length ≤ all.length := by
  have hspl' := hspl.fr k (fun i _ x => by omega)
  have hf' := hf.step k (fun i o hi x => by omega)
  rcases hR with ⟨rfl, hR⟩ | ⟨hne, hR⟩
  · exact ⟨all, v, ls, ⟨hspl', hR, h.ob, h.M, hf'⟩, Nat.le_refl _⟩
  · have hff : f = false := by
      cases f with
      | false => rfl
      | true => exact absurd (by have := cutM_fail all [] [] (by rw [h.M]); rw [h.M] at this; exact this) hne
    subst hff
    exact ⟨[], .slice none 0 0, [], ⟨hspl', hR, by simp [Value.ownBlock], rfl, hf'⟩, by simp⟩

theorem zero_rspl (w : World) : (zeroValue 33).run Try.prog w = .ok (.agg #[.slice none 0 0, .int .i64 0, .bool false]) w := by kernel_rfl

theorem own_empty (w : World) (e : TypeId) (size : Nat) : OwnSl (w.alloc (.cells #[] e)) e size (.slice (some ⟨w.heap.size, 0, none⟩) 0 0) 0 [] :=
  ⟨by simp, .inr ⟨w.heap.size, 0, 0, #[], rfl, heap_alloc_new w _, Nat.le_refl _, Nat.zero_le _, by simp, fun i hi => absurd hi (by simp)⟩⟩

end Go.Proofs.Ytmjmaffbnejccaa
