/- What all machines have in common: Need, Over, Stop, Asks, Ends, Takes, More. -/
import Derived.Test.YtppgojcfgdooiaaMach
namespace Go.Proofs.Ytppgojcfgdooiaa
open Go.RowKit

/-- The beginning of a machine: which input it reads, whether it has pieces, whether it has ended. -/
structure BaseAt (w : World) (g : Nat) (more over : Bool) : Prop where
  c0 : w.cell? ⟨g, 0, none⟩ = some (.int .i64 0)
  c1 : w.cell? ⟨g, 1, none⟩ = some (.bool more)
  c2 : w.cell? ⟨g, 2, none⟩ = some (.bool over)
  z1 : w.frozen? ⟨g, 1, none⟩ = false
  z2 : w.frozen? ⟨g, 2, none⟩ = false
def needB (more over : Bool) : Int := if over then -1 else if more then -2 else 0
def Ret (w : World) (v : Value) (e : Ending) (w' : World) : Prop := e = .returned v ∧ w = w'
set_option maxRecDepth 100000 in
theorem need_b (g : Nat) (more over : Bool) (w : World) (h : BaseAt w g more over) : Calls Try.prog 97 #[.pointer (some ⟨g, 0, none⟩)] w (Ret w (.int .i64 (needB more over))) := by
  obtain ⟨c0, c1, c2, z1, z2⟩ := h
  cases over <;> cases more <;> (
    go_enter Try.func97, Try.ntmps97
    go_wp2
    go_ret
    exact ⟨rfl, rfl⟩)
set_option maxRecDepth 100000 in
theorem over_b (g : Nat) (more over : Bool) (w : World) (h : BaseAt w g more over) : Calls Try.prog 101 #[.pointer (some ⟨g, 0, none⟩)] w (Ret w (.bool over)) := by
  obtain ⟨c0, c1, c2, z1, z2⟩ := h
  go_enter Try.func101, Try.ntmps101
  go_wp2
  go_ret
  exact ⟨rfl, rfl⟩
set_option maxRecDepth 100000 in
theorem stop_b (g : Nat) (more over : Bool) (w : World) (h : BaseAt w g more over) : Calls Try.prog 31 #[.pointer (some ⟨g, 0, none⟩)] w (fun e w' => e = .returned (.tuple #[]) ∧ w' = w.setCell ⟨g, 2, none⟩ (.bool true)) := by
  obtain ⟨c0, c1, c2, z1, z2⟩ := h
  go_enter Try.func31, Try.ntmps31
  go_wp2
  refine bodyPost_end (results_none rfl _ _ _) rfl ?_
  exact ⟨rfl, rfl⟩
def asksB (more over : Bool) : Int := if over then 4 else if more then 0 else 1
set_option maxRecDepth 100000 in
theorem asks_b (g : Nat) (more over : Bool) (w : World) (h : BaseAt w g more over) : Calls Try.prog 105 #[.pointer (some ⟨g, 0, none⟩)] w (Ret w (.int .i64 (asksB more over))) := by
  obtain ⟨c0, c1, c2, z1, z2⟩ := h
  cases over <;> cases more <;> (
    go_enter Try.func105, Try.ntmps105
    go_wp2
    go_ret
    exact ⟨rfl, rfl⟩)
def endsB (more over : Bool) (p : Int) : Int := if over then 4 else if more = true ∨ p ≠ 0 then 1 else 0
set_option maxRecDepth 100000 in
theorem ends_b (g : Nat) (more over : Bool) (p : Int) (w : World) (h : BaseAt w g more over) : Calls Try.prog 98 #[.pointer (some ⟨g, 0, none⟩), .int .i64 p] w (Ret w (.int .i64 (endsB more over p))) := by
  obtain ⟨c0, c1, c2, z1, z2⟩ := h
  by_cases hp : p = 0
  · subst hp
    cases over <;> cases more <;> (
      go_enter Try.func98, Try.ntmps98
      go_wp2
      go_ret
      exact ⟨rfl, rfl⟩)
  · have hp1 : (p != 0) = true := by simpa using hp
    have e1 : ∀ m o, endsB m o p = if o then 4 else 1 := fun m o => by unfold endsB; simp [hp]
    rw [e1]
    clear hp e1
    cases over <;> cases more <;> (
      go_enter Try.func98, Try.ntmps98
      go_wp2
      go_ret
      exact ⟨rfl, rfl⟩)
def takesB (more over : Bool) (p : Int) (n : Nat) : Int := if endsB more over p ≠ 0 then endsB more over p else if n = 0 ∨ 32 < n then 1 else 0
set_option maxRecDepth 100000 in
theorem takes_b (g : Nat) (more over : Bool) (p : Int) (a : Option Addr) (n c : Nat) (w : World) (h : BaseAt w g more over) : Calls Try.prog 102 #[.pointer (some ⟨g, 0, none⟩), .int .i64 p, .slice a n c] w (Ret w (.int .i64 (takesB more over p n))) := by
  have he := ends_b g more over p w h
  unfold takesB
  generalize endsB more over p = r at *
  by_cases hr : r = 0
  · subst hr
    by_cases h0 : n = 0
    · subst h0
      have H := Lib.hid he; clear he
      go_enter Try.func102, Try.ntmps102
      go_wp2_with (go_at_call 98; refine H.out.mono ?_; rintro e w' ⟨rfl, rfl⟩)
      go_ret
      exact ⟨rfl, rfl⟩
    · have h0b : ((n : Int) == 0) = false := by simpa using h0
      by_cases h1 : 32 < n
      · have h1b : (32 : Int) < n := by omega
        have e1 : (if (0 : Int) ≠ 0 then (0 : Int) else if n = 0 ∨ 32 < n then 1 else 0) = 1 := by simp [h1]
        rw [e1]
        have H := Lib.hid he; clear he h0 h1 e1
        go_enter Try.func102, Try.ntmps102
        go_wp2_with (go_at_call 98; refine H.out.mono ?_; rintro e w' ⟨rfl, rfl⟩)
        go_ret
        exact ⟨rfl, rfl⟩
      · have h1b : ¬ (32 : Int) < n := by omega
        have e1 : (if (0 : Int) ≠ 0 then (0 : Int) else if n = 0 ∨ 32 < n then 1 else 0) = 0 := by simp [h1, h0]
        rw [e1]
        have H := Lib.hid he; clear he h0 h1 e1
        go_enter Try.func102, Try.ntmps102
        go_wp2_with (go_at_call 98; refine H.out.mono ?_; rintro e w' ⟨rfl, rfl⟩)
        go_ret
        exact ⟨rfl, rfl⟩
  · have hrb : (r != 0) = true := by simpa using hr
    rw [if_pos hr]
    have H := Lib.hid he; clear he hr
    go_enter Try.func102, Try.ntmps102
    go_wp2_with (go_at_call 98; refine H.out.mono ?_; rintro e w' ⟨rfl, rfl⟩)
    go_ret
    exact ⟨rfl, rfl⟩
set_option maxRecDepth 100000 in
theorem more_b (g : Nat) (more over : Bool) (w : World) (h : BaseAt w g more over) : Calls Try.prog 96 #[.pointer (some ⟨g, 0, none⟩)] w (Ret w (.tuple #[.slice none 0 0, .int .i64 (asksB more over)])) := by
  have H := Lib.hid (asks_b g more over w h); clear h
  go_enter Try.func96, Try.ntmps96
  go_wp2_with (go_at_call 105; refine H.out.mono ?_; rintro e w' ⟨rfl, rfl⟩)
  go_ret2
  exact ⟨rfl, rfl⟩
end Go.Proofs.Ytppgojcfgdooiaa
