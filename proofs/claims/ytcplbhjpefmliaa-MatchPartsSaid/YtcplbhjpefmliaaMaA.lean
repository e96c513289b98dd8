/- Match: what it does with a line. -/
import Derived.Test.YtcplbhjpefmliaaLnk
import Derived.Test.YtcplbhjpefmliaaMaN
import Derived.Test.YtcplbhjpefmliaaShelf
import Derived.Deep.WholeRow
import Derived.Laws.EntriesVeiled
namespace Go.Proofs.Ytcplbhjpefmliaa
open Go.RowKit

/-- The library's own cell holds a number (which, does not matter). -/
def GM (w : World) : Prop := ∃ m, w.cell? ⟨0, 0, none⟩ = some (.int .i64 m)
theorem GM.fr {S : Nat → Nat → Prop} {w w' : World} (h : GM w) (k : Fr S w w') (hS : ¬ S 0 0) : GM w' := by
  obtain ⟨m, hm⟩ := h
  exact ⟨m, (k.cell 0 0 (World.block_lt_of_cell? w _ hm) hS).trans hm⟩
theorem GM.no {w w' : World} (h : GM w) (k : Fr No w w') : GM w' := h.fr k (fun x => x)
theorem GM.lt {w : World} (h : GM w) : 0 < w.heap.size := by
  obtain ⟨m, hm⟩ := h
  exact World.block_lt_of_cell? w _ hm
/-- What is its own: the text, whether it is to be lacking; and that the library's cell is there. -/
structure MaT (g : Nat) (A : List UInt8) (not : Bool) (w : World) (K : Nat → Prop) (_t : Unit) : Prop where
  c71 : w.cell? ⟨g, 71, none⟩ = some (sv A)
  c72 : w.cell? ⟨g, 72, none⟩ = some (.bool not)
  gm : GM w
  no : ∀ b, ¬ K b
theorem MaT.fr {g : Nat} {A : List UInt8} {not : Bool} {S : Nat → Nat → Prop} {w w' : World} {K : Nat → Prop} {t : Unit} (h : MaT g A not w K t) (k : Fr S w w') (hS : ∀ o, 71 ≤ o → ¬ S g o) (hB : ∀ b o, b < 1 → ¬ S b o) : MaT g A not w' K t := by
  have hl := World.block_lt_of_cell? w _ h.c71
  exact ⟨(k.cell g 71 hl (hS 71 (by omega))).trans h.c71, (k.cell g 72 hl (hS 72 (by omega))).trans h.c72, h.gm.fr k (hB 0 0 (by omega)), h.no⟩
theorem Outs.le {w : World} {B B' : Nat} {a : Option Addr} {ps : List Piece} (h : Outs w B a ps) (hB : B' ≤ B) : Outs w B' a ps :=
  ⟨h.cells, fun g off e => Nat.le_trans hB (h.new g off e), fun p hp => ⟨(h.bytes p hp).1, fun g off e => Nat.le_trans hB ((h.bytes p hp).2 g off e)⟩⟩
theorem gm_of_shape (W : World) (h : W.ShapedOpen Try.prog) : GM W := sh_laysM144.s1_3 W h
theorem ma_contains (s A : List UInt8) (m : Int) (W : World) (hs : s.length ≤ 1000000) (hW : W.cell? ⟨0, 0, none⟩ = some (.int .i64 m)) :
    Calls Try.prog 76 #[sv s, sv A] W (RetB W (Lib.contains s A)) := by
  refine (Any.strings_Contains { sh_laysM144 with } ⟨s.toArray⟩ ⟨A.toArray⟩ m W (by rw [size_mk]; omega) hW).mono ?_
  rintro e w' ⟨rfl, rfl⟩
  exact ⟨rfl, rfl⟩
theorem tell_two (s : List UInt8) (W : World) (g : Nat) (hg : g = W.heap.size) (hl : s.length ≤ 100000) :
    Calls Try.prog 77 #[.int .i64 0, .slice (some ⟨g, 0, none⟩) 1 1] (W.alloc (.cells #[sv s] 9)) (PcsPost (W.alloc (.cells #[sv s] 9)) [s ++ [10]]) :=
  tell_one _ _ s _ (fun _ => ⟨g, 0, rfl, row_at W #[sv s] _ rfl g hg 9 (0, 0)⟩) hl
set_option maxHeartbeats 4000000 in
set_option maxRecDepth 100000 in
theorem ma_line (g : Nat) (A : List UInt8) (not more : Bool) {w : World} {K : Nat → Prop} {t : Unit} (s : List UInt8) (hg : 1 ≤ g) (hb : BaseAt w g more false) (hT : MaT g A not w K t) (h64 : s.length ≤ 64) :
    Calls Try.prog 68 #[.pointer (some ⟨g, 0, none⟩), sv s] w (LinePost (MaT g A not) g more K (maF A not t s) w) := by
  have hgl := hb.lt
  have c71 := hT.c71
  have c72 := hT.c72
  obtain ⟨m, hm⟩ := hT.gm
  have hcon := fun (W : World) (hW : W.cell? ⟨0, 0, none⟩ = some (.int .i64 m)) => ma_contains s A m W (by omega) hW
  have HCON := Lib.hid hcon; clear hcon
  have HM := Lib.hid hm; clear hm
  have HB := Lib.hid hb; have HT := Lib.hid hT; clear hb hT
  unfold maF maG
  by_cases hc : Lib.contains s A = not
  · rw [if_pos hc]
    have HC := Lib.hid hc
    generalize Lib.contains s A = cb at *
    subst hc
    go_enter Try.func68, Try.ntmps68
    go_wp2
    go_quiet (first | (go_at_call 76; refine Calls.quiet_of_same (HCON.out _ HM.out)))
    go_wp2
    go_ret
    have f := (Fr.refl No w).drewN nq
    exact ⟨none, [], 0, K, rfl, rfl, outs_nil _ _, HB.out.fr f (fun _ _ x => x), HT.out.fr f (fun _ _ x => x) (fun _ _ _ x => x), f.mono (fun _ _ _ x => x.elim), fun _ h => .inl h, ⟨fun x _ _ => HT.out.no x, fun _ _ _ x _ _ => HT.out.no x⟩⟩
  · rw [if_neg hc]
    have hcb : Lib.contains s A = !not := by cases h1 : Lib.contains s A <;> cases not <;> simp_all
    generalize Lib.contains s A = cb at *
    subst hcb
    clear hc
    cases not <;> (
      go_enter Try.func68, Try.ntmps68
      go_wp2
      go_quiet (first | (go_at_call 76; refine Calls.quiet_of_same (HCON.out _ HM.out)))
      have f := (Fr.refl No w).drewN nq
      have HTL := Lib.hid (tell_two s (w.drewN nq) w.heap.size (by simp) (by omega))
      go_wp2_with (first
        | (go_at_call 77; refine HTL.out.mono ?_; rintro e w1 ⟨a, ps, c, rfl, hps, hout, hfr⟩
           have HPS := Lib.hid hps; have HOUT := Lib.hid hout; have HFR := Lib.hid ((f.alloc _).trans hfr); clear hps hout hfr))
      go_ret
      exact ⟨a, ps, c, K, rfl, HPS.out, HOUT.out.le (by simp), HB.out.fr HFR.out (fun _ _ x => x), HT.out.fr HFR.out (fun _ _ x => x) (fun _ _ _ x => x), HFR.out.mono (fun _ _ _ x => x.elim), fun _ h => .inl h, ⟨fun x _ _ => HT.out.no x, fun _ _ _ x _ _ => HT.out.no x⟩⟩)
set_option maxRecDepth 100000 in
theorem ma_ok (g : Nat) (A : List UInt8) (not : Bool) (hg : 1 ≤ g) : LineOk (maF A not) (MaT g A not) g 68 false 1 where
  fr h k hS _ hB := h.fr k hS hB
  lt {w K t} h b hb := absurd hb (h.no b)
  gB := hg
  call s hb hT h64 := ma_line g A not false s hg hb hT h64
  enter _ _ := by rfl
theorem ma_each (A : List UInt8) (not : Bool) : EachOk (maF A not) := ⟨fun t l p hp => by simp [maF, maG] at hp; simp [hp.2], fun t l => by simp [maF, maG]; split <;> simp⟩
end Go.Proofs.Ytcplbhjpefmliaa
