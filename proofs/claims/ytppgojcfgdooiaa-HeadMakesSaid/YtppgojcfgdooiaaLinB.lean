/- What comes of lines: Tell, each. -/
import Derived.Test.YtppgojcfgdooiaaLinA
import Derived.Test.YtppgojcfgdooiaaDrv
import Derived.Test.YtppgojcfgdooiaaJoinP
namespace Go.Proofs.Ytppgojcfgdooiaa
open Go.RowKit

/-- One answer of a function: pieces. -/
def PcsPost (w : World) (l : List (List UInt8)) (e : Ending) (w' : World) : Prop := ∃ a ps c, e = .returned (.slice a ps.length c) ∧ bytesOf ps = l ∧ Outs w' w.heap.size a ps ∧ Fr No w w'
theorem outs_nil (w : World) (B : Nat) : Outs w B none [] := ⟨At.nil _ _, by simp, by simp⟩
set_option maxHeartbeats 1000000 in
set_option maxRecDepth 100000 in
theorem tell_one (a : Option Addr) (c : Nat) (s : List UInt8) (w : World) (ha : At w a [sv s]) (hl : s.length ≤ 100000) :
    Calls Try.prog 43 #[.int .i64 0, .slice a 1 c] w (PcsPost w [s ++ [10]]) := by
  have hj := fun (W : World) (hW : Fr No w W) => join_any a c [s] W (at_no ha hW) (by simp [joinM]; omega) (by simp)
  rw [show joinM [s] = s ++ [10] from by simp [joinM]] at hj
  have HJ := Lib.hid hj; clear hj
  go_enter Try.func43, Try.ntmps43
  go_wp2_with (first
    | (go_at_call 45; refine (HJ.out _ (Fr.refl _ _)).mono ?_; rintro e w1 ⟨v1, rfl, hown, hfr1⟩; obtain ⟨a1, c1, hv1, ha1, hb1⟩ := at_of_own hown; subst hv1))
  go_ret
  refine ⟨_, [(a1, c1, s ++ [10])], _, rfl, rfl, ⟨?_, ?_, ?_⟩, hfr1.alloc _⟩
  · intro _
    refine ⟨w1.heap.size, 0, rfl, ?_⟩
    rw [show pcells [(a1, c1, s ++ [10])] = [.int .i64 0, .slice a1 (s.length + 1) c1] from by simp [pcells]]
    exact row_at w1 #[.int .i64 0, .slice a1 (s.length + 1) c1] _ rfl _ rfl 108 (0, 0)
  · intro g off e; injection e with e; injection e with e1; subst e1; exact hfr1.size
  · intro p hp
    simp at hp; subst hp
    exact ⟨ha1.fr ((Fr.refl No w1).alloc _) (fun _ _ _ _ _ _ x => x), hb1⟩

/-- What a line may write of a machine at g: that it has ended; its own cells. -/
def LineS (g : Nat) : Nat → Nat → Prop := fun b o => b = g ∧ (o = 2 ∨ 71 ≤ o)
/-- What a line leaves: pieces, what is the machine's own, whether it has ended. -/
def LinePost {τ : Type} (T : World → τ → Prop) (g : Nat) (more : Bool) (r : τ × List (List UInt8) × Bool) (w : World) (e : Ending) (w' : World) : Prop :=
  ∃ a ps c, e = .returned (.slice a ps.length c) ∧ bytesOf ps = r.2.1 ∧ Outs w' w.heap.size a ps ∧ BaseAt w' g more r.2.2 ∧ T w' r.1 ∧ Fr (LineS g) w w'
/-- What is a machine's own, and what it does with a line: a closure of function kL. -/
structure LineOk {τ : Type} (f : Each τ) (T : World → τ → Prop) (g kL : Nat) (more : Bool) : Prop where
  fr : ∀ {S : Nat → Nat → Prop} {w w' : World} {t : τ}, T w t → Fr S w w' → (∀ o, 71 ≤ o → ¬ S g o) → T w' t
  call : ∀ {w : World} {t : τ} (s : List UInt8), BaseAt w g more false → T w t → s.length ≤ 64 → Calls Try.prog kL #[.pointer (some ⟨g, 0, none⟩), sv s] w (LinePost T g more (f t s) w)
  enter : ∀ (w : World) (xs : Array Value), (callFunc kL xs).run Try.prog w = .ok (.enter kL xs) w
theorem BaseAt.fr {S : Nat → Nat → Prop} {w w' : World} {g : Nat} {more over : Bool} (h : BaseAt w g more over) (k : Fr S w w') (hS : ∀ o, o < 3 → ¬ S g o) : BaseAt w' g more over := by
  have hl := World.block_lt_of_cell? w _ h.c0
  exact ⟨(k.cell g 0 hl (hS 0 (by omega))).trans h.c0, (k.cell g 1 hl (hS 1 (by omega))).trans h.c1, (k.cell g 2 hl (hS 2 (by omega))).trans h.c2, (k.frozen g 1 hl (hS 1 (by omega))).trans h.z1, (k.frozen g 2 hl (hS 2 (by omega))).trans h.z2⟩
theorem BaseAt.lt {w : World} {g : Nat} {more over : Bool} (h : BaseAt w g more over) : g < w.heap.size := World.block_lt_of_cell? w _ h.c0

/-- The pieces ps lie in a slice v of one's own, all in blocks from B on. -/
structure OutsOwn (w : World) (B : Nat) (v : Value) (ps : List Piece) : Prop where
  own : OwnSl w 108 2 v ps.length (pcells ps)
  new : ∀ x, v.ownBlock = some x → B ≤ x
  bytes : ∀ p ∈ ps, At w p.1 (p.2.2.map bv) ∧ ∀ g off, p.1 = some ⟨g, off, none⟩ → B ≤ g
  apart : ∀ p ∈ ps, 0 < p.2.2.length → ∀ g off, p.1 = some ⟨g, off, none⟩ → v.ownBlock ≠ some g
theorem OutsOwn.fr {S : Nat → Nat → Prop} {w w' : World} {B : Nat} {v : Value} {ps : List Piece} (h : OutsOwn w B v ps) (k : Fr S w w') (hS : ∀ b o, B ≤ b → ¬ S b o) : OutsOwn w' B v ps :=
  ⟨h.own.fr k (fun b o e => hS b o (h.new b e)), h.new, fun p hp => ⟨(h.bytes p hp).1.fr k (fun g off e _ i _ => hS g _ ((h.bytes p hp).2 g off e)), (h.bytes p hp).2⟩, h.apart⟩
theorem OutsOwn.outs {w : World} {B : Nat} {v : Value} {ps : List Piece} (h : OutsOwn w B v ps) : ∃ a c, v = .slice a ps.length c ∧ Outs w B a ps := by
  obtain ⟨a, c, rfl, ha, _⟩ := h.own.at
  exact ⟨a, c, rfl, ha, fun g off e => h.new g (by rw [e]; rfl), h.bytes⟩
theorem pcells_one : ∀ ps : List Piece, ∀ y ∈ pcells ps, y.oneCell' = true
  | [], y, h => by simp [pcells] at h
  | p :: ps, y, h => by
    rcases List.mem_cons.1 h with h | h
    · subst h; rfl
    · rcases List.mem_cons.1 h with h | h
      · subst h; rfl
      · exact pcells_one ps y h
theorem Try.info108 : (Try.prog.info? 108).map (fun i => (i.zero, i.size, i.bytes)) = some (some (.agg #[.int .i64 0, .slice none 0 0]), 2, 32) := by kernel_rfl
theorem eachs_app {τ : Type} (f : Each τ) : ∀ (ls : List (List UInt8)) (l : List UInt8) (t : τ), (eachs f t ls).2.2 = false → eachs f t (ls ++ [l]) = ((f (eachs f t ls).1 l).1, (eachs f t ls).2.1 ++ (f (eachs f t ls).1 l).2.1, (f (eachs f t ls).1 l).2.2)
  | [], l, t, _ => by
    rw [List.nil_append, eachs]
    simp only [eachs, List.append_nil, List.nil_append]
    cases h : (f t l).2.2 <;> simp
  | x :: ls, l, t, h => by
    rw [List.cons_append, eachs]
    rw [eachs] at h
    by_cases hx : (f t x).2.2 = true
    · rw [if_pos hx] at h; simp at h
    · rw [if_neg hx] at h ⊢
      dsimp only at h
      have ih := eachs_app f ls l (f t x).1 h
      rw [ih]
      conv => rhs; rw [eachs, if_neg hx]
      simp
theorem eachs_over {τ : Type} (f : Each τ) : ∀ (ls ms : List (List UInt8)) (t : τ), (eachs f t ls).2.2 = true → eachs f t (ls ++ ms) = eachs f t ls
  | [], _, t, h => by simp [eachs] at h
  | x :: ls, ms, t, h => by
    rw [List.cons_append, eachs, eachs]
    rw [eachs] at h
    by_cases hx : (f t x).2.2 = true
    · rw [if_pos hx, if_pos hx]
    · rw [if_neg hx] at h
      rw [if_neg hx, if_neg hx, eachs_over f ls ms _ h]
theorem eachs_pre {τ : Type} (f : Each τ) : ∀ (a b : List (List UInt8)) (t : τ), (eachs f t a).2.1.length ≤ (eachs f t (a ++ b)).2.1.length
  | [], b, t => by simp [eachs]
  | x :: a, b, t => by
    rw [List.cons_append, eachs, eachs]
    split
    · exact Nat.le_refl _
    · have := eachs_pre f a b (f t x).1
      dsimp only
      rw [List.length_append, List.length_append]; omega
theorem OutsOwn.app {w w1 w2 : World} {B g : Nat} {v v1 : Value} {ps ps1 : List Piece} {a : Option Addr} (h : OutsOwn w B v ps) (hg : g < B) (hB : B ≤ w.heap.size) (f : Fr (LineS g) w w1) (ho : Outs w1 w.heap.size a ps1) (hown : OwnSl w2 108 2 v1 (ps.length + ps1.length) (pcells ps ++ pcells ps1)) (hf : Fr (Blk v) w1 w2) (hb : v1.ownBlock = v.ownBlock ∨ v1.ownBlock = some w1.heap.size) :
    OutsOwn w2 B v1 (ps ++ ps1) := by
  have hs := f.size
  have h1 : OutsOwn w1 B v ps := h.fr f (fun b o hb e => by have := e.1; omega)
  have hv : ∀ x, v.ownBlock = some x → x < w.heap.size := h.own.lt
  have key : ∀ p ∈ ps ++ ps1, At w1 p.1 (p.2.2.map bv) ∧ (∀ g off, p.1 = some ⟨g, off, none⟩ → B ≤ g) ∧ (0 < p.2.2.length → ∀ g off, p.1 = some ⟨g, off, none⟩ → v.ownBlock ≠ some g ∧ g < w1.heap.size) := by
    intro p hp
    rcases List.mem_append.1 hp with hp | hp
    · refine ⟨(h1.bytes p hp).1, (h1.bytes p hp).2, fun h0 x off e => ⟨h1.apart p hp h0 x off e, ?_⟩⟩
      obtain ⟨x', off', e', hr⟩ := (h1.bytes p hp).1 (by simpa using h0)
      rw [e'] at e; injection e with e; injection e with e; subst e
      exact hr.lt (by simpa using h0)
    · refine ⟨(ho.bytes p hp).1, fun x off e => by have := (ho.bytes p hp).2 x off e; omega, fun h0 x off e => ⟨fun e2 => ?_, ?_⟩⟩
      · have h3 := (ho.bytes p hp).2 x off e; have h4 := hv x e2; omega
      · obtain ⟨x', off', e', hr⟩ := (ho.bytes p hp).1 (by simpa using h0)
        rw [e'] at e; injection e with e; injection e with e; subst e
        exact hr.lt (by simpa using h0)
  refine ⟨by rw [List.length_append, pcells_app]; exact hown, fun x e => ?_, fun p hp => ⟨?_, (key p hp).2.1⟩, fun p hp h0 x off e => ?_⟩
  · rcases hb with h | h
    · rw [h] at e; exact h1.new x e
    · rw [h] at e; injection e with e; omega
  · exact (key p hp).1.fr hf (fun x off e hl i hi e2 => ((key p hp).2.2 (by simp at hi; omega) x off e).1 e2)
  · have h3 := (key p hp).2.2 h0 x off e
    rcases hb with h | h
    · rw [h]; exact h3.1
    · rw [h]; intro e4; injection e4 with e4; omega
/-- The closure that a machine keeps for its lines. -/
def evC (kL g : Nat) : Value := .func (.func kL) #[.pointer (some ⟨g, 0, none⟩)] #[]
set_option maxHeartbeats 4000000 in
set_option maxRecDepth 100000 in
theorem each_any {τ : Type} {f : Each τ} {T : World → τ → Prop} {g kL : Nat} {more : Bool} (hL : LineOk f T g kL more) (a : Option Addr) (c : Nat) (ls : List (List UInt8)) (t : τ) (w : World)
    (hB : BaseAt w g more false) (hT : T w t) (h69 : w.cell? ⟨g, 69, none⟩ = some (evC kL g)) (ha : At w a (ls.map sv)) (hag : ∀ x off, a = some ⟨x, off, none⟩ → x ≠ g) (hl : ls.length ≤ 1000) (h64 : ∀ l ∈ ls, l.length ≤ 64)
    (hps : (eachs f t ls).2.1.length ≤ 2000) :
    Calls Try.prog 100 #[.pointer (some ⟨g, 0, none⟩), .slice a ls.length c] w (LinePost T g more (eachs f t ls) w) := by
  have HL := Lib.hid hL; clear hL
  have hg := hB.lt
  have HB := Lib.hid hB; clear hB
  have HT := Lib.hid hT; clear hT
  have HA := Lib.hid ha; clear ha
  have H64 := Lib.hid h64; clear h64
  obtain ⟨i0, hi, hz0, hz1, hz2⟩ := info_parts Try.info108
  have hen := HL.out.enter
  go_enter Try.func100, Try.ntmps100
  go_wp2
  go_loopw [5, 10] (fun v i wr => ∃ (k : Nat) (ps : List Piece), k ≤ ls.length ∧ i = .int .i64 k ∧ Hid (bytesOf ps = (eachs f t (ls.take k)).2.1) ∧ Hid (OutsOwn wr w.heap.size v ps) ∧ Hid (BaseAt wr g more (eachs f t (ls.take k)).2.2) ∧ Hid (T wr (eachs f t (ls.take k)).1) ∧ Hid (Fr (LineS g) w wr)) (fun _ i _ => ls.length - (intOf i).toNat)
  case atStart => exact ⟨0, [], Nat.zero_le _, rfl, Lib.hid rfl, Lib.hid ⟨OwnSl.nil _ _ _, (fun x e => by cases e), (fun p hp => by cases hp), (fun p hp => by cases hp)⟩, Lib.hid HB.out, Lib.hid HT.out, Lib.hid (Fr.refl _ _)⟩
  case round =>
    obtain ⟨k, ps, hk, rfl, HP, HO, HBr, HTr, HF⟩ := hrel
    by_cases hlt : k < ls.length
    · have hki : (k : Int) < ls.length := by omega
      have hls : ls.take k ++ ls.drop k = ls := List.take_append_drop k ls
      have htk : ls.take (k + 1) = ls.take k ++ [ls[k]] := List.take_succ_eq_append_getElem hlt
      have hov := fun h => eachs_over f (ls.take k) (ls.drop k) t h
      rw [hls] at hov
      obtain ⟨x, off, rfl, hrow⟩ := HA.out (by simp; omega)
      have hxg := hag x off rfl
      have hc := (hrow.fr HF.out (fun i _ e => hxg e.1)).get k (sv ls[k]) (by simp [hlt])
      have hl64 := H64.out ls[k] (List.getElem_mem _)
      have h69' : wr.cell? ⟨g, 69, none⟩ = some (evC kL g) := (HF.out.cell g 69 hg (fun e => by have := e.2; omega)).trans h69
      unfold evC at h69'
      have hlen1 := eachs_pre f (ls.take (k + 1)) (ls.drop (k + 1)) t
      rw [List.take_append_drop] at hlen1
      have hnext := fun h => eachs_app f (ls.take k) ls[k] t h
      rw [← htk] at hnext
      generalize ls[k] = l at *
      have hpl : ps.length = (eachs f t (ls.take k)).2.1.length := by rw [← HP.out]; simp [bytesOf]
      have HOV := Lib.hid hov; clear hov
      have HNX := Lib.hid hnext; clear hnext
      have HLEN := Lib.hid hlen1; clear hlen1
      have HPL := Lib.hid hpl; clear hpl hls
      have HTK := Lib.hid htk; clear htk
      generalize eachs f t (ls.take k) = r at *
      obtain ⟨t1, l1, ov⟩ := r
      dsimp only at *
      cases ov with
      | true =>
        have E := Lib.hid (HOV.out rfl)
        go_wp2_with (go_at_call 101; refine (over_b g more true _ HBr.out).mono ?_; rintro e w' ⟨rfl, rfl⟩)
        go_ret
        obtain ⟨a1, c1, hv1, ho1⟩ := HO.out.outs
        subst hv1
        rw [E.out]
        exact ⟨a1, ps, c1, rfl, HP.out, ho1, HBr.out, HTr.out, HF.out⟩
      | false =>
        have hcall := HL.out.call l HBr.out HTr.out hl64
        have N := Lib.hid (HNX.out rfl)
        have hf1 : ps.length + (f t1 l).2.1.length ≤ 2000 := by
          have h1 := HLEN.out; rw [N.out] at h1; simp only [List.length_append] at h1; have h2 := HPL.out; omega
        generalize f t1 l = q at *
        obtain ⟨t2, l2, ov2⟩ := q
        dsimp only at *
        have HCALL := Lib.hid hcall; clear hcall
        go_wp2_with (first
          | (go_at_call 101; refine (over_b g more false _ HBr.out).mono ?_; rintro e w' ⟨rfl, rfl⟩)
          | (refine HCALL.out.mono ?_; rintro e1 w1 ⟨a1, ps1, c1, rfl, hb1, ho1, hB1, hT1, hf1'⟩
             dsimp only at hb1 hB1 hT1
             have hbd : ps.length + ps1.length ≤ 2000 := (by have hpl1 : ps1.length = l2.length := (by rw [← hb1]; simp [bytesOf]); omega)
             have hown := (HO.out.fr hf1' (fun b o hb e => by have := e.1; omega)).own
             have HO1 := Lib.hid ho1; have HB1 := Lib.hid hB1; have HT1 := Lib.hid hT1; have HF1 := Lib.hid hf1'; have HOWN := Lib.hid hown; clear ho1 hB1 hT1 hf1' hown)
          | (at_builtin; refine wpList_append_sl rfl (.tmp 18) (.tmp 24) 89 89 rfl 108 i0 (.agg #[.int .i64 0, .slice none 0 0]) 2 32 Try.underlying89 hi hz0 hz1 hz2 rfl (by decide) _ ps.length (pcells ps) rfl HOWN.out _ ps1.length (pcells ps1) rfl (src_slice Try.underlying89 (pcells_length ps1) HO1.out.cells (pcells_one ps1)) (by omega) (by omega) ?_; intro v2 w2 hown2 hfr2 hblk2
             have HO2 := Lib.hid hown2; have HF2 := Lib.hid hfr2; have HB2 := Lib.hid hblk2; clear hown2 hfr2 hblk2))
        go_roundw
        case rel =>
          refine ⟨k + 1, ps ++ ps1, by omega, by go_num, Lib.hid ?_, Lib.hid (HO.out.app hg HF.out.size HF1.out HO1.out HO2.out HF2.out HB2.out), Lib.hid ?_, Lib.hid ?_, Lib.hid ?_⟩
          · rw [N.out, bytesOf_app, HP.out, hb1]
          · rw [N.out]; exact HB1.out.fr HF2.out (fun o _ e => by have := HO.out.new g e; omega)
          · rw [N.out]; exact HL.out.fr HT1.out HF2.out (fun o _ e => by have := HO.out.new g e; omega)
          · exact (HF.out.trans HF1.out).step HF2.out (fun x o hx e => by have := HO.out.new x e; omega)
        case measure => simp [intOf]; omega
    · obtain rfl : k = ls.length := by omega
      rw [List.take_length] at HP HBr HTr
      go_wp2
      go_ret
      obtain ⟨a1, c1, hv1, ho1⟩ := HO.out.outs
      subst hv1
      exact ⟨a1, ps, c1, rfl, HP.out, ho1, HBr.out, HTr.out, HF.out⟩
end Go.Proofs.Ytppgojcfgdooiaa
