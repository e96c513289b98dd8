/- Turn: a machine; what it refuses; New. -/
import Derived.Test.YtcplbhjpefmliaaTuA
import Derived.Test.YtcplbhjpefmliaaChk
namespace Go.Proofs.Ytcplbhjpefmliaa
open Go.RowKit

def tuMeth (g : Nat) : Meth :=
  ⟨109, .pointer (some ⟨g, 0, none⟩), 148, .pointer (some ⟨g, 0, none⟩), 163, .pointer (some ⟨g, 0, none⟩), 162, .pointer (some ⟨g, 0, none⟩), 161, .pointer (some ⟨g, 0, none⟩), 164, .pointer (some ⟨g, 0, none⟩), 0⟩
set_option maxRecDepth 100000 in
theorem tu_meth (g : Nat) : (tuMeth g).Ok where
  mN _ := by kernel_rfl
  mH _ := by kernel_rfl
  mF _ := by kernel_rfl
  mE _ := by kernel_rfl
  mM _ := by kernel_rfl
  cN _ _ := by rfl
  cH _ _ := by rfl
  cF _ _ := by rfl
  cE _ _ := by rfl
  cM _ _ := by rfl
set_option maxRecDepth 100000 in
theorem held_b (g : Nat) (w : World) : Calls Try.prog 163 #[.pointer (some ⟨g, 0, none⟩)] w (Ret w (.int .i64 0)) := by
  go_enter Try.func163, Try.ntmps163
  go_wp2
  go_ret
  exact ⟨rfl, rfl⟩
theorem need_modU (f : UInt8 → List UInt8) (s : US) : (modU f).need s = needB false s.over := by
  unfold modU needB; dsimp only; cases s.over <;> simp
theorem tu_mach (g : Nat) (A B : List UInt8) (hA1 : 1 ≤ A.length) (hAl : A.length ≤ 1000) (hBl : B.length ≤ 1000) : Mach (modU (becomes A B)) (tuMeth g) (TuAt g A B) where
  ok := tu_meth g
  fr h k hS _ := h.fr k hS
  base _ := Nat.zero_le _
  lt h := h.lt
  need3 {w F s} h := by rw [need_modU]; unfold needB; cases s.over <;> simp
  need {w F s} h := by
    refine (need_b g false s.over w h.base).mono ?_
    rintro e w' ⟨rfl, rfl⟩
    exact ⟨by rw [need_modU], h, Fr.refl _ _⟩
  held {w F s} h := by
    refine (held_b g w).mono ?_
    rintro e w' ⟨rfl, rfl⟩
    exact ⟨rfl, h, Fr.refl _ _⟩
  heldB {w F s} h := by show (0 : Int) ≤ 0 ∧ (0 : Int) ≤ 1000000; omega
  feed {w F s} h hn a c cap ha hF h1 h32 := by
    have hov : s.over = false := by
      rw [need_modU] at hn; unfold needB at hn
      cases ho : s.over
      · rfl
      · rw [ho] at hn; simp at hn
    exact tu_feed g A B F s w h hov hA1 hAl hBl a c cap ha hF h1 h32
  fin {w F s} h hn := by
    have hov : s.over = false := by
      rw [need_modU] at hn; unfold needB at hn
      cases ho : s.over
      · rfl
      · rw [ho] at hn; simp at hn
    exact tu_end g A B F s w h hov
  more {w F s} h hn := by
    rw [need_modU] at hn; unfold needB at hn
    cases ho : s.over <;> (rw [ho] at hn; simp at hn)
set_option maxRecDepth 100000 in
theorem tu_feed_no (g : Nat) (over : Bool) (p : Int) (a : Option Addr) (n c : Nat) (w : World) (h : BaseAt w g false over) (r : Int) (hr : takesB false over p n = r) (h0 : (r != 0) = true) :
    Calls Try.prog 162 #[.pointer (some ⟨g, 0, none⟩), .int .i64 p, .slice a n c] w (fun e w' => e = .returned (.tuple #[.slice none 0 0, .int .i64 r]) ∧ w = w') := by
  have ht := takes_b g false over p a n c w h
  rw [hr] at ht
  have HT := Lib.hid ht; clear ht hr
  have hgl := h.lt
  clear h
  go_enter Try.func162, Try.ntmps162
  go_wp2_with (first
    | (go_at_call 153; refine HT.out.mono ?_; rintro e1 w1 ⟨rfl, hw1⟩; subst hw1))
  go_ret2
  exact ⟨rfl, rfl⟩
set_option maxRecDepth 100000 in
theorem tu_end_no (g : Nat) (over : Bool) (p : Int) (w : World) (h : BaseAt w g false over) (r : Int) (hr : endsB false over p = r) (h0 : (r == 0) = false) :
    Calls Try.prog 161 #[.pointer (some ⟨g, 0, none⟩), .int .i64 p] w (fun e w' => e = .returned (.tuple #[.slice none 0 0, .int .i64 r]) ∧ w = w') := by
  have ht := ends_b g false over p w h
  rw [hr] at ht
  have HT := Lib.hid ht; clear ht hr
  have hgl := h.lt
  clear h
  go_enter Try.func161, Try.ntmps161
  go_wp2_with (first
    | (go_at_call 150; refine HT.out.mono ?_; rintro e1 w1 ⟨rfl, hw1⟩; subst hw1))
  go_ret2
  exact ⟨rfl, rfl⟩
theorem tu_refuses (g : Nat) (A B : List UInt8) : Refuses (modU (becomes A B)) (tuMeth g) (TuAt g A B) where
  feed {w F s} h p a c cap ha hc hp := by
    have hr : takesB false s.over p c.length = notDue ((modU (becomes A B)).need s) := by
      rw [need_modU] at hp ⊢
      unfold takesB endsB notDue
      unfold needB at hp ⊢
      cases ho : s.over
      · rw [ho] at hp
        by_cases hp0 : p = 0
        · subst hp0
          have h2 : c.length = 0 ∨ 32 < c.length := by
            rcases hp with h | h
            · simp at h
            · exact h
          simp
          intro hc
          rcases h2 with h | h
          · exact absurd (List.eq_nil_of_length_eq_zero h) hc
          · exact h
        · simp [hp0]
      · simp
    refine (tu_feed_no g s.over p a c.length cap w h.base _ hr (by unfold notDue; split <;> rfl)).mono ?_
    rintro e w' ⟨rfl, rfl⟩
    exact ⟨none, 0, rfl, h, Fr.refl _ _⟩
  fin {w F s} h p hp := by
    have hr : endsB false s.over p = notDue ((modU (becomes A B)).need s) := by
      rw [need_modU] at hp ⊢
      unfold endsB notDue
      unfold needB at hp ⊢
      cases ho : s.over
      · rw [ho] at hp; simp at hp; simp [hp]
      · simp
    refine (tu_end_no g s.over p w h.base _ hr (by unfold notDue; split <;> rfl)).mono ?_
    rintro e w' ⟨rfl, rfl⟩
    exact ⟨none, 0, rfl, h, Fr.refl _ _⟩
  more {w F s} h hn := by
    have hr : asksB false s.over = notDue ((modU (becomes A B)).need s) := by
      rw [need_modU]
      unfold asksB notDue needB
      cases s.over <;> simp
    refine (more_b g false s.over w h.base).mono ?_
    rintro e w' ⟨rfl, rfl⟩
    rw [hr]
    exact ⟨none, 0, rfl, h, Fr.refl _ _⟩
/-! New. -/
def NoNew (w : World) (r : Int) (e : Ending) (w' : World) : Prop := e = .returned (.tuple #[.nilIface, .int .i64 r]) ∧ Fr No w w'
set_option maxRecDepth 100000 in
theorem tu_no (k n : Int) (aA aB : Option Addr) (A B : List UInt8) (cA cB : Nat) (w : World) (hA : At w aA (A.map bv)) (hl : A.length ≤ 100000000) (hl2 : B.length ≤ 100000000) (h : fchk 6 k n A B ≠ 0) :
    Calls Try.prog 43 #[.agg #[.int .i64 k, .int .i64 n, .slice aA A.length cA, .slice aB B.length cB]] w (NoNew w (fchk 6 k n A B)) := by
  have hc := fun (W : World) (hW : Fr No w W) => fcheck_any 6 k n aA aB A B cA cB W (at_no hA hW) hl hl2
  generalize fchk 6 k n A B = r at *
  have HC := Lib.hid hc; clear hc
  have hrb : (r != 0) = true := by simpa using h
  clear h
  go_enter Try.func43, Try.ntmps43
  go_wp2_with (go_at_call 58; refine (HC.out _ ((Fr.refl No w).alloc _)).mono ?_; rintro e1 w1 ⟨rfl, hfr1⟩)
  go_ret2
  exact ⟨rfl, ((Fr.refl _ _).alloc _).trans hfr1⟩
def tuC (vA vB : Value) : Array Value := #[.int .i64 0, .bool false, .bool false, vA, vB]
def tuF (g : Nat) (vA vB : Value) : Nat → Prop := fun y => y = g ∨ vA.ownBlock = some y ∨ vB.ownBlock = some y
theorem tu_rep (W : World) (a b : Option Addr) (c d : Nat) (A B : List UInt8) (hA : OwnSl W 5 1 (.slice a A.length c) A.length (A.map bv)) (hB : OwnSl W 5 1 (.slice b B.length d) B.length (B.map bv)) :
    TuAt W.heap.size A B (W.alloc (.cells (tuC (.slice a A.length c) (.slice b B.length d)) 112)) (tuF W.heap.size (.slice a A.length c) (.slice b B.length d)) ⟨false⟩ := by
  have cc := fun o => World.cell?_alloc_new W (tuC (.slice a A.length c) (.slice b B.length d)) 112 (i := o)
  have zz := fun o => World.frozen?_alloc_new W (tuC (.slice a A.length c) (.slice b B.length d)) 112 o
  obtain ⟨a', c', e1, hat, _⟩ := hA.at
  injection e1 with e1 e2 e3; subst e1
  obtain ⟨b', d', e1, hbt, _⟩ := hB.at
  injection e1 with e1 e2 e3; subst e1
  refine ⟨⟨cc 0, cc 1, cc 2, zz 1, zz 2⟩, ⟨a, c, cc 3, at_no hat ((Fr.refl No W).alloc _), fun _ x off e => ?_⟩, ⟨b, d, cc 4, at_no hbt ((Fr.refl No W).alloc _), fun _ x off e => ?_⟩, .inl rfl, fun y hy => ?_⟩
  · subst e; have := hA.lt x rfl; exact ⟨.inr (.inl rfl), by omega⟩
  · subst e; have := hB.lt x rfl; exact ⟨.inr (.inr rfl), by omega⟩
  · rcases hy with h | h | h
    · subst h; simp
    · have := hA.lt y h; simp; omega
    · have := hB.lt y h; simp; omega
def TuNew (w : World) (A B : List UInt8) (e : Ending) (w' : World) : Prop :=
  ∃ g F, e = .returned (.tuple #[.iface 109 (.pointer (some ⟨g, 0, none⟩)), .int .i64 0]) ∧ (∀ y, F y → w.heap.size ≤ y) ∧ TuAt g A B w' F ⟨false⟩ ∧ Fr No w w'
theorem clone_call (a : Option Addr) (c : Nat) (bs : List UInt8) (w : World) (ha : At w a (bs.map bv)) (hl : bs.length ≤ 100000000) : Calls Try.prog 66 #[.slice a bs.length c] w (ClonePost w bs) := clone_any a bs.length c bs w rfl ha hl
set_option maxHeartbeats 4000000 in
set_option maxRecDepth 100000 in
theorem tu_yes (n : Int) (aA aB : Option Addr) (A B : List UInt8) (cA cB : Nat) (w : World) (hA : At w aA (A.map bv)) (hB : At w aB (B.map bv)) (hl : A.length ≤ 100000000) (hl2 : B.length ≤ 100000000) (h : fchk 6 6 n A B = 0) :
    Calls Try.prog 43 #[.agg #[.int .i64 6, .int .i64 n, .slice aA A.length cA, .slice aB B.length cB]] w (TuNew w A B) := by
  have hc := fun (W : World) (hW : Fr No w W) => fcheck_any 6 6 n aA aB A B cA cB W (at_no hA hW) hl hl2
  rw [h] at hc
  clear h
  have HC := Lib.hid hc; clear hc
  have HCA := Lib.hid (fun (W : World) (hW : Fr No w W) => clone_call aA cA A W (at_no hA hW) hl)
  have HCB := Lib.hid (fun (W : World) (hW : Fr No w W) => clone_call aB cB B W (at_no hB hW) hl2)
  clear hA hB
  go_enter Try.func43, Try.ntmps43
  go_wp2_with (go_at_call 58; refine (HC.out _ ((Fr.refl No w).alloc _)).mono ?_; rintro e1 w1 ⟨rfl, hfr1⟩; obtain ⟨b1, z1⟩ := box_at hfr1; have b12 := b1 2; have b13 := b1 3; have HK := Lib.hid (((Fr.refl No w).alloc (.cells #[.int .i64 6, .int .i64 n, .slice aA A.length cA, .slice aB B.length cB] 24)).trans hfr1); clear b1 hfr1)
  have HB := Lib.hid (fun (W : World) (f : Fr No w1 W) => (show W.cell? ⟨w.heap.size, 2, none⟩ = some (.slice aA A.length cA) ∧ W.cell? ⟨w.heap.size, 3, none⟩ = some (.slice aB B.length cB) from ⟨(f.at.1 _ 2 z1).trans b12, (f.at.1 _ 3 z1).trans b13⟩))
  go_region_held3 (fun W => W.cell? ⟨w.heap.size, 2, none⟩ = some (.slice aA A.length cA) ∧ W.cell? ⟨w.heap.size, 3, none⟩ = some (.slice aB B.length cB))
    (first | exact HB.out _ (Fr.refl _ _).drew | exact HB.out _ ((Fr.refl _ _).drew.trans fA) | exact HB.out _ ((Fr.refl _ _).drew.trans fB) | exact HB.out _ (((Fr.refl _ _).drew.trans fA).trans fB) | exact HB.out _ (((Fr.refl _ _).drew.trans fB).trans fA) | exact HB.out _ ((((Fr.refl _ _).drew.trans fA).trans fB).alloc _) | exact HB.out _ ((((Fr.refl _ _).drew.trans fB).trans fA).alloc _))
    (first
      | (go_at_call 66; (with_reducible refine (HCA.out _ (by first | exact HK.out.trans (Fr.refl _ _).drew | exact HK.out.trans ((Fr.refl _ _).drew.trans fB))).mono ?_); rintro e2 w2 ⟨a', c', rfl, hoA, fA, hnA⟩)
      | (go_at_call 66; (with_reducible refine (HCB.out _ (by first | exact HK.out.trans (Fr.refl _ _).drew | exact HK.out.trans ((Fr.refl _ _).drew.trans fA))).mono ?_); rintro e3 w3 ⟨b', d', rfl, hoB, fB, hnB⟩))
  all_goals
    have hs1 := HK.out.size
    have hsA := fA.size
    have hsB := fB.size
    (try simp at hs1)
    (try simp at hsA)
    (try simp at hsB)
    go_wp2
    go_ret2
    first
      | refine ⟨w3.heap.size, tuF w3.heap.size (.slice a' A.length c') (.slice b' B.length d'), rfl, ?_, tu_rep w3 a' b' c' d' A B (hoA.fr fB (fun _ _ _ e => e)) hoB, ((HK.out.trans ((Fr.refl _ _).drew.trans fA)).trans fB).alloc _⟩
      | refine ⟨w2.heap.size, tuF w2.heap.size (.slice a' A.length c') (.slice b' B.length d'), rfl, ?_, tu_rep w2 a' b' c' d' A B hoA (hoB.fr fA (fun _ _ _ e => e)), ((HK.out.trans ((Fr.refl _ _).drew.trans fB)).trans fA).alloc _⟩
    intro y hy
    rcases hy with h | h | h
    · omega
    · have h9 := hnA y h; (try simp at h9); omega
    · have h9 := hnB y h; (try simp at h9); omega
end Go.Proofs.Ytcplbhjpefmliaa
