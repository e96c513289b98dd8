/- What all machines have in common: Need, Over, Stop, Asks, Ends, Takes, More. -/
import Derived.Test.YtjnebkoohimgjaaDoorMach
import Derived.Test.YtjnebkoohimgjaaDoorDrv
import Derived.Test.YtjnebkoohimgjaaDoorJoinP
import Derived.Test.YtjnebkoohimgjaaDoorPlain
import Derived.Deep.RegionHeld3
namespace Go.Proofs.YtjnebkoohimgjaaDoor
open Go.RowKit

/-- The beginning of a machine: which input it reads, whether it has pieces, whether it has ended. -/
structure BaseAt (w : World) (g : Nat) (more over : Bool) : Prop where
  c0 : w.cell? ⟨g, 0, none⟩ = some (.int .i64 0)
  c1 : w.cell? ⟨g, 1, none⟩ = some (.bool more)
  c2 : w.cell? ⟨g, 2, none⟩ = some (.bool over)
  z1 : w.frozen? ⟨g, 1, none⟩ = false
  z2 : w.frozen? ⟨g, 2, none⟩ = false
def needB (more over : Bool) : Int := if over then -1 else if more then -2 else 0
def Ret (w : World) (v : Value) (e : Ending) (w' : World) : Prop := e = .returned v ∧ w = w'
set_option maxRecDepth 100000 in
theorem need_b (g : Nat) (more over : Bool) (w : World) (h : BaseAt w g more over) : Calls Tryd.prog 114 #[.pointer (some ⟨g, 0, none⟩)] w (Ret w (.int .i64 (needB more over))) := by
  obtain ⟨c0, c1, c2, z1, z2⟩ := h
  cases over <;> cases more <;> (
    go_enter Tryd.func114, Tryd.ntmps114
    go_wp2
    go_ret
    exact ⟨rfl, rfl⟩)
set_option maxRecDepth 100000 in
theorem over_b (g : Nat) (more over : Bool) (w : World) (h : BaseAt w g more over) : Calls Tryd.prog 119 #[.pointer (some ⟨g, 0, none⟩)] w (Ret w (.bool over)) := by
  obtain ⟨c0, c1, c2, z1, z2⟩ := h
  go_enter Tryd.func119, Tryd.ntmps119
  go_wp2
  go_ret
  exact ⟨rfl, rfl⟩
set_option maxRecDepth 100000 in
theorem stop_b (g : Nat) (more over : Bool) (w : World) (h : BaseAt w g more over) : Calls Tryd.prog 115 #[.pointer (some ⟨g, 0, none⟩)] w (fun e w' => e = .returned (.tuple #[]) ∧ w' = w.setCell ⟨g, 2, none⟩ (.bool true)) := by
  obtain ⟨c0, c1, c2, z1, z2⟩ := h
  go_enter Tryd.func115, Tryd.ntmps115
  go_wp2
  refine bodyPost_end (results_none rfl _ _ _) rfl ?_
  exact ⟨rfl, rfl⟩
def asksB (more over : Bool) : Int := if over then 4 else if more then 0 else 1
set_option maxRecDepth 100000 in
theorem asks_b (g : Nat) (more over : Bool) (w : World) (h : BaseAt w g more over) : Calls Tryd.prog 123 #[.pointer (some ⟨g, 0, none⟩)] w (Ret w (.int .i64 (asksB more over))) := by
  obtain ⟨c0, c1, c2, z1, z2⟩ := h
  cases over <;> cases more <;> (
    go_enter Tryd.func123, Tryd.ntmps123
    go_wp2
    go_ret
    exact ⟨rfl, rfl⟩)
def endsB (more over : Bool) (p : Int) : Int := if over then 4 else if more = true ∨ p ≠ 0 then 1 else 0
set_option maxRecDepth 100000 in
theorem ends_b (g : Nat) (more over : Bool) (p : Int) (w : World) (h : BaseAt w g more over) : Calls Tryd.prog 116 #[.pointer (some ⟨g, 0, none⟩), .int .i64 p] w (Ret w (.int .i64 (endsB more over p))) := by
  obtain ⟨c0, c1, c2, z1, z2⟩ := h
  by_cases hp : p = 0
  · subst hp
    cases over <;> cases more <;> (
      go_enter Tryd.func116, Tryd.ntmps116
      go_wp2
      go_ret
      exact ⟨rfl, rfl⟩)
  · have hp1 : (p != 0) = true := by simpa using hp
    have e1 : ∀ m o, endsB m o p = if o then 4 else 1 := fun m o => by unfold endsB; simp [hp]
    rw [e1]
    clear hp e1
    cases over <;> cases more <;> (
      go_enter Tryd.func116, Tryd.ntmps116
      go_wp2
      go_ret
      exact ⟨rfl, rfl⟩)
def takesB (more over : Bool) (p : Int) (n : Nat) : Int := if endsB more over p ≠ 0 then endsB more over p else if n = 0 ∨ 32 < n then 1 else 0
set_option maxRecDepth 100000 in
theorem takes_b (g : Nat) (more over : Bool) (p : Int) (a : Option Addr) (n c : Nat) (w : World) (h : BaseAt w g more over) : Calls Tryd.prog 120 #[.pointer (some ⟨g, 0, none⟩), .int .i64 p, .slice a n c] w (Ret w (.int .i64 (takesB more over p n))) := by
  have he := ends_b g more over p w h
  unfold takesB
  generalize endsB more over p = r at *
  by_cases hr : r = 0
  · subst hr
    by_cases h0 : n = 0
    · subst h0
      have H := Lib.hid he; clear he
      go_enter Tryd.func120, Tryd.ntmps120
      go_wp2_with (go_at_call 116; refine H.out.mono ?_; rintro e w' ⟨rfl, rfl⟩)
      go_ret
      exact ⟨rfl, rfl⟩
    · have h0b : ((n : Int) == 0) = false := by simpa using h0
      by_cases h1 : 32 < n
      · have h1b : (32 : Int) < n := by omega
        have e1 : (if (0 : Int) ≠ 0 then (0 : Int) else if n = 0 ∨ 32 < n then 1 else 0) = 1 := by simp [h1]
        rw [e1]
        have H := Lib.hid he; clear he h0 h1 e1
        go_enter Tryd.func120, Tryd.ntmps120
        go_wp2_with (go_at_call 116; refine H.out.mono ?_; rintro e w' ⟨rfl, rfl⟩)
        go_ret
        exact ⟨rfl, rfl⟩
      · have h1b : ¬ (32 : Int) < n := by omega
        have e1 : (if (0 : Int) ≠ 0 then (0 : Int) else if n = 0 ∨ 32 < n then 1 else 0) = 0 := by simp [h1, h0]
        rw [e1]
        have H := Lib.hid he; clear he h0 h1 e1
        go_enter Tryd.func120, Tryd.ntmps120
        go_wp2_with (go_at_call 116; refine H.out.mono ?_; rintro e w' ⟨rfl, rfl⟩)
        go_ret
        exact ⟨rfl, rfl⟩
  · have hrb : (r != 0) = true := by simpa using hr
    rw [if_pos hr]
    have H := Lib.hid he; clear he hr
    go_enter Tryd.func120, Tryd.ntmps120
    go_wp2_with (go_at_call 116; refine H.out.mono ?_; rintro e w' ⟨rfl, rfl⟩)
    go_ret
    exact ⟨rfl, rfl⟩
set_option maxRecDepth 100000 in
theorem more_b (g : Nat) (more over : Bool) (w : World) (h : BaseAt w g more over) : Calls Tryd.prog 113 #[.pointer (some ⟨g, 0, none⟩)] w (Ret w (.tuple #[.slice none 0 0, .int .i64 (asksB more over)])) := by
  have H := Lib.hid (asks_b g more over w h); clear h
  go_enter Tryd.func113, Tryd.ntmps113
  go_wp2_with (go_at_call 123; refine H.out.mono ?_; rintro e w' ⟨rfl, rfl⟩)
  go_ret2
  exact ⟨rfl, rfl⟩
end Go.Proofs.YtjnebkoohimgjaaDoor

/- What comes of lines: Tell, each. -/
namespace Go.Proofs.YtjnebkoohimgjaaDoor
open Go.RowKit

/-- One answer of a function: pieces. -/
def PcsPost (w : World) (l : List (List UInt8)) (e : Ending) (w' : World) : Prop := ∃ a ps c, e = .returned (.slice a ps.length c) ∧ bytesOf ps = l ∧ Outs w' w.heap.size a ps ∧ Fr No w w'
theorem outs_nil (w : World) (B : Nat) : Outs w B none [] := ⟨At.nil _ _, by simp, by simp⟩
set_option maxHeartbeats 1000000 in
set_option maxRecDepth 100000 in
theorem tell_one (a : Option Addr) (c : Nat) (s : List UInt8) (w : World) (ha : At w a [sv s]) (hl : s.length ≤ 100000) :
    Calls Tryd.prog 37 #[.int .i64 0, .slice a 1 c] w (PcsPost w [s ++ [10]]) := by
  have hj := fun (W : World) (hW : Fr No w W) => join_any a c [s] W (at_no ha hW) (by simp [joinM]; omega) (by simp)
  rw [show joinM [s] = s ++ [10] from by simp [joinM]] at hj
  have HJ := Lib.hid hj; clear hj
  go_enter Tryd.func37, Tryd.ntmps37
  go_wp2_with (first
    | (go_at_call 46; refine (HJ.out _ (Fr.refl _ _)).mono ?_; rintro e w1 ⟨v1, rfl, hown, hfr1⟩; obtain ⟨a1, c1, hv1, ha1, hb1⟩ := at_of_own hown; subst hv1))
  go_ret
  refine ⟨_, [(a1, c1, s ++ [10])], _, rfl, rfl, ⟨?_, ?_, ?_⟩, hfr1.alloc _⟩
  · intro _
    refine ⟨w1.heap.size, 0, rfl, ?_⟩
    rw [show pcells [(a1, c1, s ++ [10])] = [.int .i64 0, .slice a1 (s.length + 1) c1] from by simp [pcells]]
    exact row_at w1 #[.int .i64 0, .slice a1 (s.length + 1) c1] _ rfl _ rfl 103 (0, 0)
  · intro g off e; injection e with e; injection e with e1; subst e1; exact hfr1.size
  · intro p hp
    simp at hp; subst hp
    exact ⟨ha1.fr ((Fr.refl No w1).alloc _) (fun _ _ _ _ _ _ x => x), hb1⟩

/-- What a line may write of a machine at g: that it has ended; its own cells. -/
def LineS (g : Nat) (K : Nat → Prop) : Nat → Nat → Prop := fun b o => (b = g ∧ (o = 2 ∨ 71 ≤ o)) ∨ K b
/-- Pieces lie apart from the blocks K. -/
def Apart (K : Nat → Prop) (a : Option Addr) (ps : List Piece) : Prop := (∀ x off, a = some ⟨x, off, none⟩ → ¬ K x) ∧ ∀ p ∈ ps, 0 < p.2.2.length → ∀ x off, p.1 = some ⟨x, off, none⟩ → ¬ K x
/-- What a line leaves: pieces, what is the machine's own, whether it has ended. -/
def LinePost {τ : Type} (T : World → (Nat → Prop) → τ → Prop) (g : Nat) (more : Bool) (K : Nat → Prop) (r : τ × List (List UInt8) × Bool) (w : World) (e : Ending) (w' : World) : Prop :=
  ∃ a ps c K', e = .returned (.slice a ps.length c) ∧ bytesOf ps = r.2.1 ∧ Outs w' w.heap.size a ps ∧ BaseAt w' g more r.2.2 ∧ T w' K' r.1 ∧ Fr (LineS g K) w w' ∧ (∀ b, K' b → K b ∨ w.heap.size ≤ b) ∧ Apart K' a ps
/-- What is a machine's own, and what it does with a line: a closure of function kL. -/
structure LineOk {τ : Type} (f : Each τ) (T : World → (Nat → Prop) → τ → Prop) (g kL : Nat) (more : Bool) (B : Nat) : Prop where
  fr : ∀ {S : Nat → Nat → Prop} {w w' : World} {K : Nat → Prop} {t : τ}, T w K t → Fr S w w' → (∀ o, 71 ≤ o → ¬ S g o) → (∀ b o, K b → ¬ S b o) → (∀ b o, b < B → ¬ S b o) → T w' K t
  lt : ∀ {w : World} {K : Nat → Prop} {t : τ}, T w K t → ∀ b, K b → b < w.heap.size ∧ b ≠ g
  gB : B ≤ g
  call : ∀ {w : World} {K : Nat → Prop} {t : τ} (s : List UInt8), BaseAt w g more false → T w K t → s.length ≤ 64 → Calls Tryd.prog kL #[.pointer (some ⟨g, 0, none⟩), sv s] w (LinePost T g more K (f t s) w)
  enter : ∀ (w : World) (xs : Array Value), (callFunc kL xs).run Tryd.prog w = .ok (.enter kL xs) w
theorem BaseAt.fr {S : Nat → Nat → Prop} {w w' : World} {g : Nat} {more over : Bool} (h : BaseAt w g more over) (k : Fr S w w') (hS : ∀ o, o < 3 → ¬ S g o) : BaseAt w' g more over := by
  have hl := World.block_lt_of_cell? w _ h.c0
  exact ⟨(k.cell g 0 hl (hS 0 (by omega))).trans h.c0, (k.cell g 1 hl (hS 1 (by omega))).trans h.c1, (k.cell g 2 hl (hS 2 (by omega))).trans h.c2, (k.frozen g 1 hl (hS 1 (by omega))).trans h.z1, (k.frozen g 2 hl (hS 2 (by omega))).trans h.z2⟩
theorem BaseAt.lt {w : World} {g : Nat} {more over : Bool} (h : BaseAt w g more over) : g < w.heap.size := World.block_lt_of_cell? w _ h.c0

/-- The pieces ps lie in a slice v of one's own, all in blocks from B on. -/
structure OutsOwn (w : World) (B : Nat) (v : Value) (ps : List Piece) : Prop where
  own : OwnSl w 103 2 v ps.length (pcells ps)
  new : ∀ x, v.ownBlock = some x → B ≤ x
  bytes : ∀ p ∈ ps, At w p.1 (p.2.2.map bv) ∧ ∀ g off, p.1 = some ⟨g, off, none⟩ → B ≤ g
  apart : ∀ p ∈ ps, 0 < p.2.2.length → ∀ g off, p.1 = some ⟨g, off, none⟩ → v.ownBlock ≠ some g
theorem OutsOwn.fr {S : Nat → Nat → Prop} {w w' : World} {B : Nat} {v : Value} {ps : List Piece} (h : OutsOwn w B v ps) (k : Fr S w w') (hS : ∀ b o, B ≤ b → ¬ S b o) : OutsOwn w' B v ps :=
  ⟨h.own.fr k (fun b o e => hS b o (h.new b e)), h.new, fun p hp => ⟨(h.bytes p hp).1.fr k (fun g off e _ _ _ => hS g _ ((h.bytes p hp).2 g off e)), (h.bytes p hp).2⟩, h.apart⟩
theorem OutsOwn.outs {w : World} {B : Nat} {v : Value} {ps : List Piece} (h : OutsOwn w B v ps) : ∃ a c, v = .slice a ps.length c ∧ Outs w B a ps := by
  obtain ⟨a, c, rfl, ha, _⟩ := h.own.at
  exact ⟨a, c, rfl, ha, fun g off e => h.new g (by rw [e]; rfl), h.bytes⟩
theorem pcells_one : ∀ ps : List Piece, ∀ y ∈ pcells ps, y.oneCell' = true
  | [], y, h => by simp [pcells] at h
  | p :: ps, y, h => by
    rcases List.mem_cons.1 h with h | h
    · subst h; rfl
    · rcases List.mem_cons.1 h with h | h
      · subst h; rfl
      · exact pcells_one ps y h
theorem Tryd.info103 : (Tryd.prog.info? 103).map (fun i => (i.zero, i.size, i.bytes)) = some (some (.agg #[.int .i64 0, .slice none 0 0]), 2, 32) := by kernel_rfl
theorem eachs_app {τ : Type} (f : Each τ) : ∀ (ls : List (List UInt8)) (l : List UInt8) (t : τ), (eachs f t ls).2.2 = false → eachs f t (ls ++ [l]) = ((f (eachs f t ls).1 l).1, (eachs f t ls).2.1 ++ (f (eachs f t ls).1 l).2.1, (f (eachs f t ls).1 l).2.2)
  | [], l, t, _ => by
    rw [List.nil_append, eachs]
    simp only [eachs, List.append_nil, List.nil_append]
    cases h : (f t l).2.2 <;> simp
  | x :: ls, l, t, h => by
    rw [List.cons_append, eachs]
    rw [eachs] at h
    by_cases hx : (f t x).2.2 = true
    · rw [if_pos hx] at h; simp at h
    · rw [if_neg hx] at h ⊢
      dsimp only at h
      have ih := eachs_app f ls l (f t x).1 h
      rw [ih]
      conv => rhs; rw [eachs, if_neg hx]
      simp
theorem eachs_over {τ : Type} (f : Each τ) : ∀ (ls ms : List (List UInt8)) (t : τ), (eachs f t ls).2.2 = true → eachs f t (ls ++ ms) = eachs f t ls
  | [], _, t, h => by simp [eachs] at h
  | x :: ls, ms, t, h => by
    rw [List.cons_append, eachs, eachs]
    rw [eachs] at h
    by_cases hx : (f t x).2.2 = true
    · rw [if_pos hx, if_pos hx]
    · rw [if_neg hx] at h
      rw [if_neg hx, if_neg hx, eachs_over f ls ms _ h]
theorem eachs_pre {τ : Type} (f : Each τ) : ∀ (a b : List (List UInt8)) (t : τ), (eachs f t a).2.1.length ≤ (eachs f t (a ++ b)).2.1.length
  | [], b, t => by simp [eachs]
  | x :: a, b, t => by
    rw [List.cons_append, eachs, eachs]
    split
    · exact Nat.le_refl _
    · have := eachs_pre f a b (f t x).1
      dsimp only
      rw [List.length_append, List.length_append]; omega
theorem OutsOwn.fr2 {S : Nat → Nat → Prop} {w w' : World} {B : Nat} {v : Value} {ps : List Piece} (h : OutsOwn w B v ps) (k : Fr S w w') (hv : ∀ x o, v.ownBlock = some x → ¬ S x o) (hp : ∀ p ∈ ps, 0 < p.2.2.length → ∀ x off o, p.1 = some ⟨x, off, none⟩ → ¬ S x o) : OutsOwn w' B v ps :=
  ⟨h.own.fr k (fun b o e => hv b o e), h.new, fun p hpp => ⟨(h.bytes p hpp).1.fr k (fun g off e _ i hi => hp p hpp (by simp at hi; omega) g off _ e), (h.bytes p hpp).2⟩, h.apart⟩
/-- Pieces in a slice of one's own, apart from the blocks K. -/
def OApart (K : Nat → Prop) (v : Value) (ps : List Piece) : Prop := (∀ x, v.ownBlock = some x → ¬ K x) ∧ ∀ p ∈ ps, 0 < p.2.2.length → ∀ x off, p.1 = some ⟨x, off, none⟩ → ¬ K x
theorem piece_lt {w : World} {B : Nat} {v : Value} {ps : List Piece} (h : OutsOwn w B v ps) : ∀ p ∈ ps, 0 < p.2.2.length → ∀ x off, p.1 = some ⟨x, off, none⟩ → x < w.heap.size := fun p hp h0 x off e => by
  obtain ⟨x', off', e', hr⟩ := (h.bytes p hp).1 (by simpa using h0)
  rw [e'] at e; injection e with e; injection e with e; subst e
  exact hr.lt (by simpa using h0)
theorem OApart.next {w : World} {B : Nat} {K1 K2 : Nat → Prop} {v : Value} {ps : List Piece} (h : OApart K1 v ps) (ho : OutsOwn w B v ps) (hK : ∀ b, K2 b → K1 b ∨ w.heap.size ≤ b) : OApart K2 v ps := by
  refine ⟨fun x e hx => ?_, fun p hp h0 x off e hx => ?_⟩
  · rcases hK x hx with h1 | h1
    · exact h.1 x e h1
    · have := ho.own.lt x e; omega
  · rcases hK x hx with h1 | h1
    · exact h.2 p hp h0 x off e h1
    · have := piece_lt ho p hp h0 x off e; omega
theorem OutsOwn.app {w w1 w2 : World} {B : Nat} {v v1 : Value} {ps ps1 : List Piece} {a : Option Addr} (h : OutsOwn w B v ps) (h1 : OutsOwn w1 B v ps) (hB : B ≤ w.heap.size) (hs : w.heap.size ≤ w1.heap.size) (ho : Outs w1 w.heap.size a ps1) (hown : OwnSl w2 103 2 v1 (ps.length + ps1.length) (pcells ps ++ pcells ps1)) (hf : Fr (Blk v) w1 w2) (hb : v1.ownBlock = v.ownBlock ∨ v1.ownBlock = some w1.heap.size) :
    OutsOwn w2 B v1 (ps ++ ps1) := by
  have hv : ∀ x, v.ownBlock = some x → x < w.heap.size := h.own.lt
  have key : ∀ p ∈ ps ++ ps1, At w1 p.1 (p.2.2.map bv) ∧ (∀ g off, p.1 = some ⟨g, off, none⟩ → B ≤ g) ∧ (0 < p.2.2.length → ∀ g off, p.1 = some ⟨g, off, none⟩ → v.ownBlock ≠ some g ∧ g < w1.heap.size) := by
    intro p hp
    rcases List.mem_append.1 hp with hp | hp
    · refine ⟨(h1.bytes p hp).1, (h1.bytes p hp).2, fun h0 x off e => ⟨h1.apart p hp h0 x off e, ?_⟩⟩
      obtain ⟨x', off', e', hr⟩ := (h1.bytes p hp).1 (by simpa using h0)
      rw [e'] at e; injection e with e; injection e with e; subst e
      exact hr.lt (by simpa using h0)
    · refine ⟨(ho.bytes p hp).1, fun x off e => by have := (ho.bytes p hp).2 x off e; omega, fun h0 x off e => ⟨fun e2 => ?_, ?_⟩⟩
      · have h3 := (ho.bytes p hp).2 x off e; have h4 := hv x e2; omega
      · obtain ⟨x', off', e', hr⟩ := (ho.bytes p hp).1 (by simpa using h0)
        rw [e'] at e; injection e with e; injection e with e; subst e
        exact hr.lt (by simpa using h0)
  refine ⟨by rw [List.length_append, pcells_app]; exact hown, fun x e => ?_, fun p hp => ⟨?_, (key p hp).2.1⟩, fun p hp h0 x off e => ?_⟩
  · rcases hb with h | h
    · rw [h] at e; exact h1.new x e
    · rw [h] at e; injection e with e; omega
  · exact (key p hp).1.fr hf (fun x off e hl i hi e2 => ((key p hp).2.2 (by simp at hi; omega) x off e).1 e2)
  · have h3 := (key p hp).2.2 h0 x off e
    rcases hb with h | h
    · rw [h]; exact h3.1
    · rw [h]; intro e4; injection e4 with e4; omega
/-- The closure that a machine keeps for its lines. -/
def evC (kL g : Nat) : Value := .func (.func kL) #[.pointer (some ⟨g, 0, none⟩)] #[]
set_option maxHeartbeats 4000000 in
set_option maxRecDepth 100000 in
theorem each_any {τ : Type} {f : Each τ} {T : World → (Nat → Prop) → τ → Prop} {g kL B : Nat} {more : Bool} (hL : LineOk f T g kL more B) (K : Nat → Prop) (a : Option Addr) (c : Nat) (ls : List (List UInt8)) (t : τ) (w : World)
    (hB : BaseAt w g more false) (hT : T w K t) (h69 : w.cell? ⟨g, 69, none⟩ = some (evC kL g)) (ha : At w a (ls.map sv)) (hag : ∀ x off, a = some ⟨x, off, none⟩ → x ≠ g ∧ ¬ K x) (hl : ls.length ≤ 1000) (h64 : ∀ l ∈ ls, l.length ≤ 64)
    (hps : (eachs f t ls).2.1.length ≤ 2000) :
    Calls Tryd.prog 118 #[.pointer (some ⟨g, 0, none⟩), .slice a ls.length c] w (LinePost T g more K (eachs f t ls) w) := by
  have HL := Lib.hid hL; clear hL
  have hg := hB.lt
  have HB := Lib.hid hB; clear hB
  have HKL := Lib.hid (HL.out.lt hT)
  have HT := Lib.hid hT; clear hT
  have HA := Lib.hid ha; clear ha
  have H64 := Lib.hid h64; clear h64
  obtain ⟨i0, hi, hz0, hz1, hz2⟩ := info_parts Tryd.info103
  have hen := HL.out.enter
  go_enter Tryd.func118, Tryd.ntmps118
  go_wp2
  go_loopw [5, 10] (fun v i wr => ∃ (k : Nat) (ps : List Piece) (K1 : Nat → Prop), k ≤ ls.length ∧ i = .int .i64 k ∧ Hid (bytesOf ps = (eachs f t (ls.take k)).2.1) ∧ Hid (OutsOwn wr w.heap.size v ps) ∧ Hid (BaseAt wr g more (eachs f t (ls.take k)).2.2) ∧ Hid (T wr K1 (eachs f t (ls.take k)).1) ∧ Hid (Fr (LineS g K) w wr) ∧ Hid (∀ b, K1 b → K b ∨ w.heap.size ≤ b) ∧ Hid (OApart K1 v ps)) (fun _ i _ => ls.length - (intOf i).toNat)
  case atStart => exact ⟨0, [], K, Nat.zero_le _, rfl, Lib.hid rfl, Lib.hid ⟨OwnSl.nil _ _ _, (fun x e => by cases e), (fun p hp => by cases hp), (fun p hp => by cases hp)⟩, Lib.hid HB.out, Lib.hid HT.out, Lib.hid (Fr.refl _ _), Lib.hid (fun b hb => .inl hb), Lib.hid ⟨(fun x e => by cases e), (fun p hp => by cases hp)⟩⟩
  case round =>
    obtain ⟨k, ps, K1, hk, rfl, HP, HO, HBr, HTr, HF, HK1, HAP⟩ := hrel
    have hgK : ¬ K g := fun h => (HKL.out g h).2 rfl
    by_cases hlt : k < ls.length
    · have hki : (k : Int) < ls.length := by omega
      have hls : ls.take k ++ ls.drop k = ls := List.take_append_drop k ls
      have htk : ls.take (k + 1) = ls.take k ++ [ls[k]] := List.take_succ_eq_append_getElem hlt
      have hov := fun h => eachs_over f (ls.take k) (ls.drop k) t h
      rw [hls] at hov
      obtain ⟨x, off, rfl, hrow⟩ := HA.out (by simp; omega)
      have hxg := hag x off rfl
      have hc := (hrow.fr HF.out (fun i _ e => by rcases e with e | e; exact hxg.1 e.1; exact hxg.2 e)).get k (sv ls[k]) (by simp [hlt])
      have hl64 := H64.out ls[k] (List.getElem_mem _)
      have h69' : wr.cell? ⟨g, 69, none⟩ = some (evC kL g) := (HF.out.cell g 69 hg (fun e => by rcases e with e | e; (have := e.2; omega); exact hgK e)).trans h69
      unfold evC at h69'
      have hlen1 := eachs_pre f (ls.take (k + 1)) (ls.drop (k + 1)) t
      rw [List.take_append_drop] at hlen1
      have hnext := fun h => eachs_app f (ls.take k) ls[k] t h
      rw [← htk] at hnext
      generalize ls[k] = l at *
      have hpl : ps.length = (eachs f t (ls.take k)).2.1.length := by rw [← HP.out]; simp [bytesOf]
      have HOV := Lib.hid hov; clear hov
      have HNX := Lib.hid hnext; clear hnext
      have HLEN := Lib.hid hlen1; clear hlen1
      have HPL := Lib.hid hpl; clear hpl hls
      have HTK := Lib.hid htk; clear htk
      generalize eachs f t (ls.take k) = r at *
      obtain ⟨t1, l1, ov⟩ := r
      dsimp only at *
      cases ov with
      | true =>
        have E := Lib.hid (HOV.out rfl)
        go_wp2_with (go_at_call 119; refine (over_b g more true _ HBr.out).mono ?_; rintro e w' ⟨rfl, rfl⟩)
        go_ret
        obtain ⟨a1, c1, hv1, ho1⟩ := HO.out.outs
        subst hv1
        rw [E.out]
        exact ⟨a1, ps, c1, K1, rfl, HP.out, ho1, HBr.out, HTr.out, HF.out, HK1.out, fun x off e => HAP.out.1 x (by rw [e]; rfl), HAP.out.2⟩
      | false =>
        have hcall := HL.out.call l HBr.out HTr.out hl64
        have N := Lib.hid (HNX.out rfl)
        have hf1 : ps.length + (f t1 l).2.1.length ≤ 2000 := by
          have h1 := HLEN.out; rw [N.out] at h1; simp only [List.length_append] at h1; have h2 := HPL.out; omega
        generalize f t1 l = q at *
        obtain ⟨t2, l2, ov2⟩ := q
        dsimp only at *
        have HCALL := Lib.hid hcall; clear hcall
        go_wp2_with (first
          | (go_at_call 119; refine (over_b g more false _ HBr.out).mono ?_; rintro e w' ⟨rfl, rfl⟩)
          | (refine HCALL.out.mono ?_; rintro e1 w1 ⟨a1, ps1, c1, K2, rfl, hb1, ho1, hB1, hT1, hf1', hk2, hap2⟩
             dsimp only at hb1 hB1 hT1
             have hbd : ps.length + ps1.length ≤ 2000 := (by have hpl1 : ps1.length = l2.length := (by rw [← hb1]; simp [bytesOf]); omega)
             have ho' := HO.out.fr2 hf1' (fun x o e1 e2 => by rcases e2 with e2 | e2; (have h8 := HO.out.new x e1; have h9 := e2.1; omega); exact HAP.out.1 x e1 e2) (fun p hp h0 x off o e1 e2 => by rcases e2 with e2 | e2; (have h8 := (HO.out.bytes p hp).2 x off e1; have h9 := e2.1; omega); exact HAP.out.2 p hp h0 x off e1 e2)
             have hown := ho'.own
             have HOO := Lib.hid ho'; have HK2 := Lib.hid hk2; have HAP2 := Lib.hid hap2
             have HO1 := Lib.hid ho1; have HB1 := Lib.hid hB1; have HT1 := Lib.hid hT1; have HF1 := Lib.hid hf1'; have HOWN := Lib.hid hown; clear ho1 hB1 hT1 hf1' hown ho' hk2 hap2)
          | (at_builtin; refine wpList_append_sl rfl (.tmp 18) (.tmp 24) 85 85 rfl 103 i0 (.agg #[.int .i64 0, .slice none 0 0]) 2 32 Tryd.underlying85 hi hz0 hz1 hz2 rfl (by decide) _ ps.length (pcells ps) rfl HOWN.out _ ps1.length (pcells ps1) rfl (src_slice Tryd.underlying85 (pcells_length ps1) HO1.out.cells (pcells_one ps1)) (by omega) (by omega) ?_; intro v2 w2 hown2 hfr2 hblk2
             have HO2 := Lib.hid hown2; have HF2 := Lib.hid hfr2; have HB2 := Lib.hid hblk2; clear hown2 hfr2 hblk2))
        go_roundw
        case rel =>
          have hs1 := HF.out.size
          have hs2 := HF1.out.size
          have h2lt := HL.out.lt HT1.out
          have hnx := HAP.out.next HO.out HK2.out
          have hvn := hnx.1
          refine ⟨k + 1, ps ++ ps1, K2, by omega, by go_num, Lib.hid ?_, Lib.hid (HO.out.app HOO.out HF.out.size HF1.out.size HO1.out HO2.out HF2.out HB2.out), Lib.hid ?_, Lib.hid ?_, Lib.hid ?_, Lib.hid ?_, Lib.hid ?_⟩
          · rw [N.out, bytesOf_app, HP.out, hb1]
          · rw [N.out]; exact HB1.out.fr HF2.out (fun o _ e => by have := HO.out.new g e; omega)
          · rw [N.out]; exact HL.out.fr HT1.out HF2.out (fun o _ e => by have := HO.out.new g e; omega) (fun b o hb e => hvn b e hb) (fun b o hb e => by have := HO.out.new b e; have := HL.out.gB; omega)
          · exact (HF.out.step HF1.out (fun x o hx e => by
              rcases e with e | e
              · exact .inl e
              · rcases HK1.out x e with h | h
                · exact .inr h
                · omega)).step HF2.out (fun x o hx e => by have := HO.out.new x e; omega)
          · intro b hb
            rcases HK2.out b hb with h | h
            · exact HK1.out b h
            · exact .inr (by omega)
          · refine ⟨fun x e h => ?_, fun p hp h0 x off e h => ?_⟩
            · rcases HB2.out with h9 | h9
              · rw [h9] at e; exact hvn x e h
              · rw [h9] at e; injection e with e; have := (h2lt x h).1; omega
            · rcases List.mem_append.1 hp with hp | hp
              · exact hnx.2 p hp h0 x off e h
              · exact HAP2.out.2 p hp h0 x off e h
        case measure => simp [intOf]; omega
    · obtain rfl : k = ls.length := by omega
      rw [List.take_length] at HP HBr HTr
      go_wp2
      go_ret
      obtain ⟨a1, c1, hv1, ho1⟩ := HO.out.outs
      subst hv1
      exact ⟨a1, ps, c1, K1, rfl, HP.out, ho1, HBr.out, HTr.out, HF.out, HK1.out, fun x off e => HAP.out.1 x (by rw [e]; rfl), HAP.out.2⟩
end Go.Proofs.YtjnebkoohimgjaaDoor

/- Machines of lines: Feed, End, Held. -/
namespace Go.Proofs.YtjnebkoohimgjaaDoor
open Go.RowKit

/-- A machine of lines lies at g. -/
structure LRep {τ : Type} (T : World → (Nat → Prop) → τ → Prop) (g kL : Nat) (w : World) (K : Nat → Prop) (s : LS τ) : Prop where
  base : BaseAt w g false s.over
  spl : SplAt w g 3 s.cs s.failed
  each : w.cell? ⟨g, 69, none⟩ = some (evC kL g)
  last : w.cell? ⟨g, 70, none⟩ = some .nilFunc
  own : T w K s.t
  inv : s.over = false → s.failed = false
def LR {τ : Type} (T : World → (Nat → Prop) → τ → Prop) (g kL : Nat) (w : World) (F : Nat → Prop) (s : LS τ) : Prop := ∃ K, (∀ x, F x ↔ x = g ∨ K x) ∧ LRep T g kL w K s
theorem LRep.fr {τ : Type} {f : Each τ} {T : World → (Nat → Prop) → τ → Prop} {g kL B : Nat} (hL : LineOk f T g kL false B) {S : Nat → Nat → Prop} {w w' : World} {K : Nat → Prop} {s : LS τ} (h : LRep T g kL w K s) (k : Fr S w w') (hS : ∀ o, ¬ S g o) (hK : ∀ b o, K b → ¬ S b o) (hB : ∀ b o, b < B → ¬ S b o) : LRep T g kL w' K s := by
  have hl := h.base.lt
  exact ⟨h.base.fr k (fun o _ => hS o), h.spl.fr k (fun i _ => hS _), (k.cell g 69 hl (hS _)).trans h.each, (k.cell g 70 hl (hS _)).trans h.last, hL.fr h.own k (fun o _ => hS o) hK hB, h.inv⟩
theorem LR.fr {τ : Type} {f : Each τ} {T : World → (Nat → Prop) → τ → Prop} {g kL B : Nat} (hL : LineOk f T g kL false B) {S : Nat → Nat → Prop} {w w' : World} {F : Nat → Prop} {s : LS τ} (h : LR T g kL w F s) (k : Fr S w w') (hS : ∀ b o, F b → ¬ S b o) (hB : ∀ b o, b < B → ¬ S b o) : LR T g kL w' F s := by
  obtain ⟨K, hF, hr⟩ := h
  exact ⟨K, hF, hr.fr hL k (fun o => hS g o ((hF g).2 (.inl rfl))) (fun b o hb => hS b o ((hF b).2 (.inr hb))) hB⟩
set_option maxRecDepth 100000 in
theorem held_l {τ : Type} {T : World → (Nat → Prop) → τ → Prop} {g kL : Nat} {K : Nat → Prop} (w : World) (s : LS τ) (h : LRep T g kL w K s) : Calls Tryd.prog 112 #[.pointer (some ⟨g, 0, none⟩)] w (Ret w (.int .i64 s.cs.length)) := by
  have hb := begun_any g 3 s.cs.length w h.spl.n
  have HB := Lib.hid hb; clear hb
  go_enter Tryd.func112, Tryd.ntmps112
  go_wp2_with (go_at_call 122; refine HB.out.mono ?_; rintro e w' ⟨rfl, rfl⟩)
  go_ret
  exact ⟨rfl, rfl⟩
/- Feed that is refused. -/
set_option maxRecDepth 100000 in
theorem feed_no {τ : Type} {T : World → (Nat → Prop) → τ → Prop} {g kL : Nat} {K : Nat → Prop} (w : World) (s : LS τ) (h : LRep T g kL w K s) (p : Int) (a : Option Addr) (n c : Nat) (r : Int) (hr : takesB false s.over p n = r) (h0 : r ≠ 0) :
    Calls Tryd.prog 111 #[.pointer (some ⟨g, 0, none⟩), .int .i64 p, .slice a n c] w (Ret w (.tuple #[.slice none 0 0, .int .i64 r])) := by
  have ht := takes_b g false s.over p a n c w h.base
  rw [hr] at ht
  have hrb : (r != 0) = true := by simpa using h0
  have HT := Lib.hid ht; clear ht h0 hr h
  go_enter Tryd.func111, Tryd.ntmps111
  go_wp2_with (go_at_call 120; refine HT.out.mono ?_; rintro e w' ⟨rfl, rfl⟩)
  go_ret2
  exact ⟨rfl, rfl⟩
/- End that is refused. -/
set_option maxRecDepth 100000 in
theorem end_no {τ : Type} {T : World → (Nat → Prop) → τ → Prop} {g kL : Nat} {K : Nat → Prop} (w : World) (s : LS τ) (h : LRep T g kL w K s) (p : Int) (r : Int) (hr : endsB false s.over p = r) (h0 : r ≠ 0) :
    Calls Tryd.prog 110 #[.pointer (some ⟨g, 0, none⟩), .int .i64 p] w (Ret w (.tuple #[.slice none 0 0, .int .i64 r])) := by
  have ht := ends_b g false s.over p w h.base
  rw [hr] at ht
  have hrb : (r != 0) = true := by simpa using h0
  have HT := Lib.hid ht; clear ht h0 hr h
  go_enter Tryd.func110, Tryd.ntmps110
  go_wp2_with (go_at_call 116; refine HT.out.mono ?_; rintro e w' ⟨rfl, rfl⟩)
  go_ret2
  exact ⟨rfl, rfl⟩

/-- What a line may make come out. -/
structure EachOk {τ : Type} (f : Each τ) : Prop where
  full : ∀ t l, ∀ p ∈ (f t l).2.1, p ≠ []
  weight : ∀ t l, (f t l).2.1.flatten.length ≤ l.length + 1
/-- What an answer leaves of a machine of lines. -/
def LAns {τ : Type} (T : World → (Nat → Prop) → τ → Prop) (g kL : Nat) (K : Nat → Prop) (r : LS τ × List (List UInt8) × Int) (w : World) (e : Ending) (w' : World) : Prop :=
  ∃ a ps c K', e = .returned (.tuple #[.slice a ps.length c, .int .i64 r.2.2]) ∧ bytesOf ps = r.2.1 ∧ Outs w' w.heap.size a ps ∧ LRep T g kL w' K' r.1 ∧ Fr (fun b _ => b = g ∨ K b) w w' ∧ ∀ b, K' b → K b ∨ w.heap.size ≤ b
set_option maxHeartbeats 4000000 in
set_option maxRecDepth 100000 in
theorem feed_l {τ : Type} {f : Each τ} {T : World → (Nat → Prop) → τ → Prop} {g kL B : Nat} (hL : LineOk f T g kL false B) (hE : EachOk f) (K : Nat → Prop) (w : World) (s : LS τ) (h : LRep T g kL w K s) (hov : s.over = false) (x off : Nat) (bs : List UInt8) (cap : Nat) (ha : Bts w x off bs) (hxg : x ≠ g) (h1 : 1 ≤ bs.length) (h32 : bs.length ≤ 32) :
    Calls Tryd.prog 111 #[.pointer (some ⟨g, 0, none⟩), .int .i64 0, .slice (some ⟨x, off, none⟩) bs.length cap] w (LAns T g kL K (feedL f s bs) w) := by
  have hfl := h.inv hov
  have hlt := h.base.lt
  have ht := takes_b g false s.over 0 (some ⟨x, off, none⟩) bs.length cap w h.base
  rw [hov, show takesB false false 0 bs.length = 0 from by unfold takesB endsB; rw [if_neg (by simp), if_neg (by omega)]] at ht
  have hspl := h.spl
  rw [hfl] at hspl
  have hcut := cut_any g 3 x off cap s.cs bs w hspl ha hxg (by omega)
  have hklen := cutM_len bs s.cs []
  simp only [List.length_nil, Nat.zero_add] at hklen
  have hk64 := cutM_short bs s.cs [] h.spl.len (by simp)
  have hkf := cutM_failed bs s.cs []
  have hbg := cutM_begun bs s.cs [] h.spl.len
  have hout : (eachs f s.t (cutM bs s.cs []).1).2.1.length ≤ 2000 := by
    have e1 := eachs_full f hE.full (cutM bs s.cs []).1 s.t
    have e2 := eachs_weight f hE.weight (cutM bs s.cs []).1 s.t
    have e3 := outOk_len _ e1
    have e4 := cutM_weight bs s.cs []
    have e5 := h.spl.len
    have e6 : (joinM (cutM bs s.cs []).1).length ≤ 96 := by simp [joinM] at e4 ⊢; omega
    omega
  have hbase := h.base
  rw [hov] at hbase
  have c69 := h.each
  have c70 := h.last
  have hown := h.own
  have hKlt := hL.lt hown
  have hgB := hL.gB
  unfold feedL
  dsimp only
  generalize cutM bs s.cs [] = k at *
  obtain ⟨ls, rest, fl⟩ := k
  dsimp only at *
  have HEACH := Lib.hid (fun (W : World) (hW : Fr (SplS g 3) w W) (a : Option Addr) (c : Nat) (h1 : At W a (ls.map sv)) (h2 : ∀ x off, a = some ⟨x, off, none⟩ → x ≠ g ∧ ¬ K x) =>
    each_any hL K a c ls s.t W (hbase.fr hW (fun o ho e => by have := e.2.1; omega)) (hL.fr hown hW (fun o ho e => by have := e.2.2; omega) (fun b o hb e => (hKlt b hb).2 e.1) (fun b o hb e => by have := e.1; omega)) ((hW.cell g 69 hlt (fun e => by have := e.2.2; omega)).trans c69) h1 h2 (by omega) hk64 hout)
  have H70 := Lib.hid (fun (W : World) (hW : Fr (fun b o => SplS g 3 b o ∨ LineS g K b o) w W) => (show W.cell? ⟨g, 69, none⟩ = some (evC kL g) ∧ W.cell? ⟨g, 70, none⟩ = some .nilFunc from
    ⟨(hW.cell g 69 hlt (fun e => by rcases e with e | e | e; (have := e.2.2; omega); (have := e.2; omega); exact (hKlt g e).2 rfl)).trans c69, (hW.cell g 70 hlt (fun e => by rcases e with e | e | e; (have := e.2.2; omega); (have := e.2; omega); exact (hKlt g e).2 rfl)).trans c70⟩))
  have HT := Lib.hid ht; clear ht
  have HC := Lib.hid hcut; clear hcut
  have HL := Lib.hid hL; clear hL
  clear hspl h hbase c69 c70 hown hk64 hout ha
  generalize eachs f s.t ls = r at *
  obtain ⟨t1, out, ov⟩ := r
  dsimp only at *
  have HKF := Lib.hid hkf; clear hkf
  have FIN := Lib.hid (fun (w1 w2 : World) (a2 : Option Addr) (ps2 : List Piece) (c2 : Nat) (hs1 : SplAt w1 g 3 rest fl) (hf1 : Fr (SplS g 3) w w1) (hf2 : Fr (LineS g K) w1 w2) =>
    (show SplAt w2 g 3 rest fl ∧ Fr (fun b o => SplS g 3 b o ∨ LineS g K b o) w w2 ∧ Fr (fun b _ => b = g ∨ K b) w w2 from
      ⟨hs1.fr hf2 (fun i hi e => by rcases e with e | e; (have := e.2; omega); exact (hKlt g e).2 rfl), (hf1.mono (fun _ _ _ e => .inl e)).step hf2 (fun _ _ _ e => .inr e), (hf1.mono (fun _ _ _ e => .inl e.1)).step hf2 (fun _ _ _ e => by rcases e with e | e; exact .inl e.1; exact .inr e)⟩))
  cases fl with
  | false =>
    cases ov <;> (
    go_enter Tryd.func111, Tryd.ntmps111
    go_wp2_with (first
    | (go_at_call 120; refine HT.out.mono ?_; rintro e w' ⟨rfl, rfl⟩)
    | (go_at_call 121; refine HC.out.mono ?_; rintro e1 w1 ⟨v1, rfl, hown1, hspl1, hfr1⟩; obtain ⟨a1, c1, hv1, hat1, hb1⟩ := at_of_own hown1; subst hv1; dsimp only at hspl1
       have HS1 := Lib.hid hspl1; have HF1 := Lib.hid hfr1; have HA1 := Lib.hid hat1; have HN1 := Lib.hid hb1; clear hspl1 hfr1 hat1 hb1 hown1)
    | (go_at_call 118; refine (HEACH.out _ HF1.out a1 c1 HA1.out (fun x off e => by have h9 := HN1.out x off e; exact ⟨by omega, fun h => by have := (hKlt x h).1; omega⟩)).mono ?_; rintro e2 w2 ⟨a2, ps2, c2, K2, rfl, hbo2, ho2, hB2, hT2, hfr2, hk2, _⟩; dsimp only at hbo2 hB2 hT2
       have HBO2 := Lib.hid hbo2; have HO2 := Lib.hid ho2; have HB2 := Lib.hid hB2; have HT2 := Lib.hid hT2; have HF2 := Lib.hid hfr2; have HK2 := Lib.hid hk2; clear hbo2 ho2 hB2 hT2 hfr2 hk2))
    go_ret2
    obtain ⟨f1, f2, f3⟩ := FIN.out w1 w2 a2 ps2 c2 HS1.out HF1.out HF2.out
    have hs := HF1.out.size
    exact ⟨a2, ps2, c2, K2, rfl, HBO2.out, ⟨HO2.out.cells, fun x off e => by have := HO2.out.new x off e; omega, fun p hp => ⟨(HO2.out.bytes p hp).1, fun x off e => by have := (HO2.out.bytes p hp).2 x off e; omega⟩⟩,
      ⟨HB2.out, f1, (H70.out _ f2).1, (H70.out _ f2).2, HT2.out, (by intro e; first | rfl | cases e)⟩, f3, fun b hb => by rcases HK2.out b hb with h | h; exact .inl h; exact .inr (by omega)⟩)
  | true =>
    have hrest := HKF.out rfl
    subst hrest
    cases ov with
    | true =>
      go_enter Tryd.func111, Tryd.ntmps111
      go_wp2_with (first
      | (go_at_call 120; refine HT.out.mono ?_; rintro e w' ⟨rfl, rfl⟩)
      | (go_at_call 121; refine HC.out.mono ?_; rintro e1 w1 ⟨v1, rfl, hown1, hspl1, hfr1⟩; obtain ⟨a1, c1, hv1, hat1, hb1⟩ := at_of_own hown1; subst hv1; dsimp only at hspl1
         have HS1 := Lib.hid hspl1; have HF1 := Lib.hid hfr1; have HA1 := Lib.hid hat1; have HN1 := Lib.hid hb1; clear hspl1 hfr1 hat1 hb1 hown1)
      | (go_at_call 118; refine (HEACH.out _ HF1.out a1 c1 HA1.out (fun x off e => by have h9 := HN1.out x off e; exact ⟨by omega, fun h => by have := (hKlt x h).1; omega⟩)).mono ?_; rintro e2 w2 ⟨a2, ps2, c2, K2, rfl, hbo2, ho2, hB2, hT2, hfr2, hk2, _⟩; dsimp only at hbo2 hB2 hT2
         have HBO2 := Lib.hid hbo2; have HO2 := Lib.hid ho2; have HB2 := Lib.hid hB2; have HT2 := Lib.hid hT2; have HF2 := Lib.hid hfr2; have HK2 := Lib.hid hk2; clear hbo2 ho2 hB2 hT2 hfr2 hk2)
      | (go_at_call 119; refine (over_b g false true _ HB2.out).mono ?_; rintro e3 w3 ⟨rfl, rfl⟩))
      go_ret2
      obtain ⟨f1, f2, f3⟩ := FIN.out w1 w2 a2 ps2 c2 HS1.out HF1.out HF2.out
      have hs := HF1.out.size
      exact ⟨a2, ps2, c2, K2, rfl, HBO2.out, ⟨HO2.out.cells, fun x off e => by have := HO2.out.new x off e; omega, fun p hp => ⟨(HO2.out.bytes p hp).1, fun x off e => by have := (HO2.out.bytes p hp).2 x off e; omega⟩⟩,
        ⟨HB2.out, f1, (H70.out _ f2).1, (H70.out _ f2).2, HT2.out, fun e => by cases e⟩, f3, fun b hb => by rcases HK2.out b hb with h | h; exact .inl h; exact .inr (by omega)⟩
    | false =>
      go_enter Tryd.func111, Tryd.ntmps111
      go_wp2_with (first
      | (go_at_call 120; refine HT.out.mono ?_; rintro e w' ⟨rfl, rfl⟩)
      | (go_at_call 121; refine HC.out.mono ?_; rintro e1 w1 ⟨v1, rfl, hown1, hspl1, hfr1⟩; obtain ⟨a1, c1, hv1, hat1, hb1⟩ := at_of_own hown1; subst hv1; dsimp only at hspl1
         have HS1 := Lib.hid hspl1; have HF1 := Lib.hid hfr1; have HA1 := Lib.hid hat1; have HN1 := Lib.hid hb1; clear hspl1 hfr1 hat1 hb1 hown1)
      | (go_at_call 118; refine (HEACH.out _ HF1.out a1 c1 HA1.out (fun x off e => by have h9 := HN1.out x off e; exact ⟨by omega, fun h => by have := (hKlt x h).1; omega⟩)).mono ?_; rintro e2 w2 ⟨a2, ps2, c2, K2, rfl, hbo2, ho2, hB2, hT2, hfr2, hk2, _⟩; dsimp only at hbo2 hB2 hT2
         have HBO2 := Lib.hid hbo2; have HO2 := Lib.hid ho2; have HB2 := Lib.hid hB2; have HT2 := Lib.hid hT2; have HF2 := Lib.hid hfr2; have HK2 := Lib.hid hk2; clear hbo2 ho2 hB2 hT2 hfr2 hk2)
      | (go_at_call 119; refine (over_b g false false _ HB2.out).mono ?_; rintro e3 w3 ⟨rfl, rfl⟩)
      | (go_at_call 115; refine (stop_b g false false _ HB2.out).mono ?_; rintro e4 w4 ⟨rfl, rfl⟩))
      go_ret2
      obtain ⟨f1, f2, f3⟩ := FIN.out w1 w2 a2 ps2 c2 HS1.out HF1.out HF2.out
      have hs := HF1.out.size
      have st : Fr (fun b o => b = g ∧ o = 2) w2 (w2.setCell ⟨g, 2, none⟩ (.bool true)) := (Fr.refl _ _).setCell (fun _ => ⟨rfl, rfl⟩) _
      have hgl2 : g < w2.heap.size := HB2.out.lt
      refine ⟨a2, ps2, c2, K2, rfl, HBO2.out, ⟨HO2.out.cells.fr st (fun x off e hx i _ e2 => by have := HO2.out.new x off e; omega), fun x off e => by have := HO2.out.new x off e; omega, fun p hp => ⟨(HO2.out.bytes p hp).1.fr st (fun x off e hx i _ e2 => by have := (HO2.out.bytes p hp).2 x off e; omega), fun x off e => by have := (HO2.out.bytes p hp).2 x off e; omega⟩⟩,
        ⟨?_, f1.fr st (fun i hi e => by omega), (H70.out _ (f2.step st (fun b o _ e => .inr (.inl ⟨e.1, .inl e.2⟩)))).1, (H70.out _ (f2.step st (fun b o _ e => .inr (.inl ⟨e.1, .inl e.2⟩)))).2, HL.out.fr HT2.out st (fun o ho e => by omega) (fun b o hb e => (HL.out.lt HT2.out b hb).2 e.1) (fun b o hb e => by have := e.1; omega), fun e => by cases e⟩, f3.step st (fun _ _ _ e => .inl e.1), fun b hb => by rcases HK2.out b hb with h | h; exact .inl h; exact .inr (by omega)⟩
      have b := HB2.out
      exact ⟨(st.cell g 0 hgl2 (fun e => by omega)).trans b.c0, (st.cell g 1 hgl2 (fun e => by omega)).trans b.c1, World.cell?_setCell_same _ _ _ b.c2, (by rw [World.frozen?_setCell]; exact b.z1), (by rw [World.frozen?_setCell]; exact b.z2)⟩
theorem eachs_one {τ : Type} (f : Each τ) (t : τ) (l : List UInt8) : eachs f t [l] = f t l := by
  rw [eachs]
  cases h : (f t l).2.2
  · rw [if_neg (by simp)]; simp only [eachs, List.append_nil]; rw [← h]
  · rw [if_pos rfl, ← h]
set_option maxHeartbeats 4000000 in
set_option maxRecDepth 100000 in
theorem end_l {τ : Type} {f : Each τ} {T : World → (Nat → Prop) → τ → Prop} {g kL B : Nat} (hL : LineOk f T g kL false B) (hE : EachOk f) (K : Nat → Prop) (w : World) (s : LS τ) (h : LRep T g kL w K s) (hov : s.over = false) :
    Calls Tryd.prog 110 #[.pointer (some ⟨g, 0, none⟩), .int .i64 0] w (LAns T g kL K (finL f s) w) := by
  have hnf : ∀ w : World, (binOp .neq 79 .nilFunc .nilFunc).run Tryd.prog w = .ok (.bool false) w := fun _ => by kernel_rfl
  have hlt := h.base.lt
  have ht := ends_b g false s.over 0 w h.base
  rw [hov, show endsB false false 0 = 0 from rfl] at ht
  have hrest := rest_calls g 3 s.cs s.failed w h.spl
  have h64 := h.spl.len
  have hbase := h.base
  rw [hov] at hbase
  have c69 := h.each
  have c70 := h.last
  have hown := h.own
  have hKlt := hL.lt hown
  have hgB := hL.gB
  have hfull := hE.full s.t s.cs
  have hw := hE.weight s.t s.cs
  have HT := Lib.hid ht; clear ht
  obtain ⟨cs, failed, over, t⟩ := s
  dsimp only at *
  subst hov
  have HEACH := Lib.hid (fun (W : World) (hW : Fr (SplS g 3) w W) (a : Option Addr) (c : Nat) (h1 : At W a [sv cs]) (h2 : ∀ x off, a = some ⟨x, off, none⟩ → x ≠ g ∧ ¬ K x) =>
    each_any hL K a c [cs] t W (hbase.fr hW (fun o ho e => by have := e.2.1; omega)) (hL.fr hown hW (fun o ho e => by have := e.2.2; omega) (fun b o hb e => (hKlt b hb).2 e.1) (fun b o hb e => by have := e.1; omega)) ((hW.cell g 69 hlt (fun e => by have := e.2.2; omega)).trans c69) h1 h2 (by simp) (by simpa using h64)
      (by rw [eachs_one]; have := outOk_len _ hfull; omega))
  rw [eachs_one] at HEACH
  have H70 := Lib.hid (fun (W : World) (hW : Fr (fun b o => SplS g 3 b o ∨ LineS g K b o) w W) => (show W.cell? ⟨g, 69, none⟩ = some (evC kL g) ∧ W.cell? ⟨g, 70, none⟩ = some .nilFunc from
    ⟨(hW.cell g 69 hlt (fun e => by rcases e with e | e | e; (have := e.2.2; omega); (have := e.2; omega); exact (hKlt g e).2 rfl)).trans c69, (hW.cell g 70 hlt (fun e => by rcases e with e | e | e; (have := e.2.2; omega); (have := e.2; omega); exact (hKlt g e).2 rfl)).trans c70⟩))
  have HBF := Lib.hid (fun (W : World) (hW : Fr (SplS g 3) w W) => hbase.fr hW (fun o ho e => by have := e.2.1; omega))
  have HOWN := Lib.hid (fun (W : World) (hW : Fr (SplS g 3) w W) => hL.fr hown hW (fun o ho e => by have := e.2.2; omega) (fun b o hb e => (hKlt b hb).2 e.1) (fun b o hb e => by have := e.1; omega))
  have HL := Lib.hid hL; clear hL
  have HR := Lib.hid hrest; clear hrest
  clear h hbase c69 c70 hown hfull hw
  have STOP := Lib.hid (fun (W : World) (ov : Bool) (hb : BaseAt W g false ov) => (show BaseAt (W.setCell ⟨g, 2, none⟩ (.bool true)) g false true from by
    have hgl2 : g < W.heap.size := hb.lt
    have st : Fr (fun b o => b = g ∧ o = 2) W (W.setCell ⟨g, 2, none⟩ (.bool true)) := (Fr.refl _ _).setCell (fun _ => ⟨rfl, rfl⟩) _
    exact ⟨(st.cell g 0 hgl2 (fun e => by omega)).trans hb.c0, (st.cell g 1 hgl2 (fun e => by omega)).trans hb.c1, World.cell?_setCell_same _ _ _ hb.c2, (by rw [World.frozen?_setCell]; exact hb.z1), (by rw [World.frozen?_setCell]; exact hb.z2)⟩))
  by_cases hcs : cs = []
  · subst hcs
    have e0 : finL f ⟨[], failed, false, t⟩ = (⟨[], failed, true, t⟩, [], 0) := by simp [finL]
    rw [e0]; clear e0
    go_enter Tryd.func110, Tryd.ntmps110
    go_wp2_with (first
      | (go_at_call 116; refine HT.out.mono ?_; rintro e w' ⟨rfl, rfl⟩)
      | (go_at_call 117; refine HR.out.mono ?_; rintro e1 w1 ⟨rfl, hs1, hf1⟩; have HS1 := Lib.hid hs1; have HF1 := Lib.hid hf1
         have c70 := (H70.out _ (hf1.mono (fun _ _ _ e => .inl e))).2; clear hs1 hf1)
      | (go_at_call 119; refine (over_b g false false _ (HBF.out _ HF1.out)).mono ?_; rintro e3 w3 ⟨rfl, rfl⟩)
      | (go_at_call 115; refine (stop_b g false false _ (HBF.out _ HF1.out)).mono ?_; rintro e4 w4 ⟨rfl, rfl⟩))
    go_ret2
    have st : Fr (fun b o => b = g ∧ o = 2) w1 (w1.setCell ⟨g, 2, none⟩ (.bool true)) := (Fr.refl _ _).setCell (fun _ => ⟨rfl, rfl⟩) _
    have fw : Fr (fun b o => SplS g 3 b o ∨ LineS g K b o) w (w1.setCell ⟨g, 2, none⟩ (.bool true)) := (HF1.out.mono (fun _ _ _ e => .inl e)).step st (fun _ _ _ e => .inr (.inl ⟨e.1, .inl e.2⟩))
    exact ⟨none, [], 0, K, rfl, rfl, outs_nil _ _, ⟨STOP.out _ _ (HBF.out _ HF1.out), HS1.out.fr st (fun i hi e => by omega), (H70.out _ fw).1, (H70.out _ fw).2, HL.out.fr (HOWN.out _ HF1.out) st (fun o ho e => by omega) (fun b o hb e => (hKlt b hb).2 e.1) (fun b o hb e => by have := e.1; omega), fun e => by cases e⟩,
      (HF1.out.mono (fun _ _ _ e => .inl e.1)).step st (fun _ _ _ e => .inl e.1), fun b hb => .inl hb⟩
  · have e0 : finL f ⟨cs, failed, false, t⟩ = (⟨[], failed, true, (f t cs).1⟩, (f t cs).2.1, 0) := by simp [finL, hcs]
    rw [e0]; clear e0
    have hem : (!cs.isEmpty) = true := by simpa using hcs
    have hr := HR.out
    rw [hem] at hr
    have HR := Lib.hid hr; clear hr hem hcs
    generalize f t cs = r at *
    obtain ⟨t1, out, ov⟩ := r
    dsimp only at *
    cases ov <;> (
    go_enter Tryd.func110, Tryd.ntmps110
    go_wp2_with (first
      | (go_at_call 116; refine HT.out.mono ?_; rintro e w' ⟨rfl, rfl⟩)
      | (go_at_call 117; refine HR.out.mono ?_; rintro e1 w1 ⟨rfl, hs1, hf1⟩; have HS1 := Lib.hid hs1; have HF1 := Lib.hid hf1; clear hs1 hf1)
      | (go_at_call 118; refine (HEACH.out _ (HF1.out.alloc _) (some ⟨w1.heap.size, 0, none⟩) 1 (fun _ => ⟨w1.heap.size, 0, rfl, row_at w1 #[sv cs] _ rfl _ rfl 9 (0, 0)⟩) (fun x off e => by injection e with e; injection e with e; have h9 := HF1.out.size; exact ⟨by omega, fun h => by have := (hKlt x h).1; omega⟩)).mono ?_; rintro e2 w2 ⟨a2, ps2, c2, K2, rfl, hbo2, ho2, hB2, hT2, hfr2, hk2, _⟩; dsimp only at hbo2 hB2 hT2
         have hfa : Fr (LineS g K) w1 w2 := (((Fr.refl _ w1).alloc _).trans hfr2)
         have HBO2 := Lib.hid hbo2; have HO2 := Lib.hid ho2; have HB2 := Lib.hid hB2; have HT2 := Lib.hid hT2; have HF2 := Lib.hid hfa; have HK2 := Lib.hid hk2; clear hk2
         have c70 := (H70.out _ ((HF1.out.mono (fun _ _ _ e => .inl e)).step HF2.out (fun _ _ _ e => .inr e))).2; clear hbo2 ho2 hB2 hT2 hfr2 hfa)
      | (go_at_call 119; refine (over_b g false _ _ HB2.out).mono ?_; rintro e3 w3 ⟨rfl, rfl⟩)
      | (go_at_call 115; refine (stop_b g false _ _ HB2.out).mono ?_; rintro e4 w4 ⟨rfl, rfl⟩))
    go_ret2
    have hs := HF1.out.size
    have hal : w1.heap.size ≤ (w1.alloc (.cells #[sv cs] 9)).heap.size := by simp
    have st : Fr (fun b o => b = g ∧ o = 2) w2 (w2.setCell ⟨g, 2, none⟩ (.bool true)) := (Fr.refl _ _).setCell (fun _ => ⟨rfl, rfl⟩) _
    have f2 : Fr (fun b o => SplS g 3 b o ∨ LineS g K b o) w (w2.setCell ⟨g, 2, none⟩ (.bool true)) := ((HF1.out.mono (fun _ _ _ e => .inl e)).step HF2.out (fun _ _ _ e => .inr e)).step st (fun _ _ _ e => .inr (.inl ⟨e.1, .inl e.2⟩))
    exact ⟨a2, ps2, c2, K2, rfl, HBO2.out, ⟨HO2.out.cells.fr st (fun x off e hx i _ e2 => by have := HO2.out.new x off e; omega), fun x off e => by have := HO2.out.new x off e; omega, fun p hp => ⟨(HO2.out.bytes p hp).1.fr st (fun x off e hx i _ e2 => by have := (HO2.out.bytes p hp).2 x off e; omega), fun x off e => by have := (HO2.out.bytes p hp).2 x off e; omega⟩⟩,
      ⟨STOP.out _ _ HB2.out, (HS1.out.fr HF2.out (fun i hi e => by rcases e with e | e; (have := e.2; omega); exact (hKlt g e).2 rfl)).fr st (fun i hi e => by omega), (H70.out _ f2).1, (H70.out _ f2).2, HL.out.fr HT2.out st (fun o ho e => by omega) (fun b o hb e => (HL.out.lt HT2.out b hb).2 e.1) (fun b o hb e => by have := e.1; omega), fun e => by cases e⟩,
      ((HF1.out.mono (fun _ _ _ e => .inl e.1)).step HF2.out (fun _ _ _ e => by rcases e with e | e; exact .inl e.1; exact .inr e)).step st (fun _ _ _ e => .inl e.1), fun b hb => by rcases HK2.out b hb with h | h; exact .inl h; exact .inr (by omega)⟩)
end Go.Proofs.YtjnebkoohimgjaaDoor

/- A machine of lines is a machine. -/
namespace Go.Proofs.YtjnebkoohimgjaaDoor
open Go.RowKit

/-- The methods of a machine of lines at g, of type U. -/
def linesMeth (U g B : Nat) : Meth :=
  ⟨U, .pointer (some ⟨g, 0, none⟩), 114, .pointer (some ⟨g, 0, none⟩), 112, .pointer (some ⟨g, 0, none⟩), 111, .pointer (some ⟨g, 0, none⟩), 110, .pointer (some ⟨g, 0, none⟩), 113, .pointer (some ⟨g, 0, none⟩), B⟩
theorem need_modL {τ : Type} (f : Each τ) (s : LS τ) : (modL f).need s = needB false s.over := by
  unfold modL needB; dsimp only; cases s.over <;> simp
theorem lines_mach {τ : Type} {f : Each τ} {T : World → (Nat → Prop) → τ → Prop} {g kL U B : Nat} (hL : LineOk f T g kL false B) (hE : EachOk f) (hm : (linesMeth U g B).Ok) : Mach (modL f) (linesMeth U g B) (LR T g kL) where
  ok := hm
  fr h k hS hB := h.fr hL k hS hB
  base h := by obtain ⟨K, hF, hr⟩ := h; have := hr.base.lt; have := hL.gB; show B ≤ _; omega
  lt h b hb := by
    obtain ⟨K, hF, hr⟩ := h
    rcases (hF b).1 hb with h | h
    · subst h; exact hr.base.lt
    · exact (hL.lt hr.own b h).1
  need3 {w F s} h := by rw [need_modL]; unfold needB; cases s.over <;> simp
  need {w F s} h := by
    have h' := h
    obtain ⟨K, hF, hr⟩ := h'
    refine (need_b g false s.over w hr.base).mono ?_
    rintro e w' ⟨rfl, rfl⟩
    exact ⟨by rw [need_modL], h, Fr.refl _ _⟩
  held {w F s} h := by
    have h' := h
    obtain ⟨K, hF, hr⟩ := h'
    refine (held_l w s hr).mono ?_
    rintro e w' ⟨rfl, rfl⟩
    exact ⟨rfl, h, Fr.refl _ _⟩
  heldB {w F s} h := by obtain ⟨K, hF, hr⟩ := h; have := hr.spl.len; show 0 ≤ ((s.cs.length : Nat) : Int) ∧ ((s.cs.length : Nat) : Int) ≤ 1000000; omega
  feed {w F s} h hn a c cap ha hF h1 h32 := by
    have hov : s.over = false := by
      rw [need_modL] at hn; unfold needB at hn
      cases ho : s.over
      · rfl
      · rw [ho] at hn; simp at hn
    obtain ⟨x, off, rfl, hra⟩ := ha (by simp; omega)
    obtain ⟨K, hFK, hr⟩ := h
    refine (feed_l hL hE K w s hr hov x off c cap hra.bts (fun e => hF x off rfl ((hFK x).2 (.inl e))) h1 h32).mono ?_
    rintro e w' ⟨a', ps, c', K', rfl, hb, ho, hr', hf, hk⟩
    exact ⟨a', ps, c', fun y => y = g ∨ K' y, rfl, hb, feedL_ok f hE.full hE.weight s c hr.spl.len h32, ho, ⟨K', fun _ => Iff.rfl, hr'⟩, hf.mono (fun b _ _ e => (hFK b).2 e), fun b hb => by
      rcases hb with h | h
      · exact .inl ((hFK b).2 (.inl h))
      · rcases hk b h with h | h
        · exact .inl ((hFK b).2 (.inr h))
        · exact .inr h⟩
  fin {w F s} h hn := by
    have hov : s.over = false := by
      rw [need_modL] at hn; unfold needB at hn
      cases ho : s.over
      · rfl
      · rw [ho] at hn; simp at hn
    obtain ⟨K, hFK, hr⟩ := h
    refine (end_l hL hE K w s hr hov).mono ?_
    rintro e w' ⟨a', ps, c', K', rfl, hb, ho, hr', hf, hk⟩
    exact ⟨a', ps, c', fun y => y = g ∨ K' y, rfl, hb, finL_ok f hE.full hE.weight s hr.spl.len, ho, ⟨K', fun _ => Iff.rfl, hr'⟩, hf.mono (fun b _ _ e => (hFK b).2 e), fun b hb => by
      rcases hb with h | h
      · exact .inl ((hFK b).2 (.inl h))
      · rcases hk b h with h | h
        · exact .inl ((hFK b).2 (.inr h))
        · exact .inr h⟩
  more {w F s} h hn := by
    rw [need_modL] at hn; unfold needB at hn
    cases ho : s.over <;> rw [ho] at hn <;> simp at hn
theorem lines_refuses {τ : Type} {f : Each τ} {T : World → (Nat → Prop) → τ → Prop} {g kL U B : Nat} : Refuses (modL f) (linesMeth U g B) (LR T g kL) where
  feed {w F s} h p a c cap ha hc hp := by
    have hr : takesB false s.over p c.length = notDue ((modL f).need s) := by
      rw [need_modL] at hp ⊢
      unfold takesB endsB notDue
      unfold needB at hp ⊢
      cases ho : s.over
      · rw [ho] at hp
        by_cases hp0 : p = 0
        · subst hp0
          have h2 : c.length = 0 ∨ 32 < c.length := by
            rcases hp with h | h
            · exact absurd (by simp) h
            · exact h
          rw [if_neg (by simp), if_pos h2]
          simp
        · simp [hp0]
      · simp
    have h0 : notDue ((modL f).need s) ≠ 0 := by unfold notDue; split <;> simp
    have h' := h
    obtain ⟨K, hF, hrr⟩ := h'
    refine (feed_no w s hrr p a c.length cap _ hr h0).mono ?_
    rintro e w' ⟨rfl, rfl⟩
    exact ⟨none, 0, rfl, h, Fr.refl _ _⟩
  fin {w F s} h p hp := by
    have hr : endsB false s.over p = notDue ((modL f).need s) := by
      rw [need_modL] at hp ⊢
      unfold endsB notDue
      unfold needB at hp ⊢
      cases ho : s.over
      · rw [ho] at hp; simp at hp ⊢; exact hp
      · simp
    have h0 : notDue ((modL f).need s) ≠ 0 := by unfold notDue; split <;> simp
    have h' := h
    obtain ⟨K, hF, hrr⟩ := h'
    refine (end_no w s hrr p _ hr h0).mono ?_
    rintro e w' ⟨rfl, rfl⟩
    exact ⟨none, 0, rfl, h, Fr.refl _ _⟩
  more {w F s} h hn := by
    have h' := h
    obtain ⟨K, hF, hrr⟩ := h'
    refine (more_b g false s.over w hrr.base).mono ?_
    rintro e w' ⟨rfl, rfl⟩
    refine ⟨none, 0, ?_, h, Fr.refl _ _⟩
    rw [need_modL]; unfold needB notDue asksB; cases s.over <;> simp
end Go.Proofs.YtjnebkoohimgjaaDoor
