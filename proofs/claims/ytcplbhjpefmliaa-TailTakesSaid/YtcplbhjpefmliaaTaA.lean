/- Tail: what it does with a line; the lines that it keeps. -/
import Derived.Test.YtcplbhjpefmliaaLnk
import Derived.Deep.WholeRow
import Derived.Laws.EntriesVeiled
namespace Go.Proofs.Ytcplbhjpefmliaa
open Go.RowKit

theorem OwnSl.tail {w : World} {e : TypeId} {a : Option Addr} {n c : Nat} {x : Value} {xs : List Value} (h : OwnSl w e 1 (.slice a (n + 1) c) (n + 1) (x :: xs)) :
    OwnSl w e 1 (.slice (subA a c 1 1) n (c - 1)) n xs ∧ (Value.slice (subA a c 1 1) n (c - 1)).ownBlock = (Value.slice a (n + 1) c).ownBlock := by
  have hl := h.1
  rcases h.2 with ⟨_, h0⟩ | ⟨g, off, cap, cur, hv, hg, h1, h2, h3, hr⟩
  · omega
  · injection hv with e1 e2 e3
    subst e1; subst e3
    by_cases hc : c = 1
    · have e4 : subA (some ⟨g, off, none⟩) c 1 1 = some ⟨g, off, none⟩ := by unfold subA; rw [if_pos hc]
      rw [e4]
      have hn : n = 0 := by omega
      subst hn
      have hx : xs = [] := by simp at hl; exact hl
      subst hx
      exact ⟨⟨by simp, .inr ⟨g, off, c - 1, cur, rfl, hg, by omega, by omega, by omega, fun i hi => absurd hi (by simp)⟩⟩, rfl⟩
    · have e4 : subA (some ⟨g, off, none⟩) c 1 1 = some ⟨g, off + 1, none⟩ := by
        unfold subA; rw [if_neg hc]; simp [Addr.add]
      rw [e4]
      refine ⟨⟨by simp at hl ⊢; omega, .inr ⟨g, off + 1, c - 1, cur, rfl, hg, by omega, by omega, by omega, fun i hi => ?_⟩⟩, rfl⟩
      have := hr (i + 1) (by simpa using hi)
      rw [show off + 1 + i = off + (i + 1) from by omega, this]
      simp
/-- The lines that it keeps, at most n, in a block of its own. -/
structure KeptAt (g n : Nat) (w : World) (K : Nat → Prop) (kept : List (List UInt8)) : Prop where
  c71 : w.cell? ⟨g, 71, none⟩ = some (.int .i64 n)
  kv : ∃ a c, w.cell? ⟨g, 72, none⟩ = some (.slice a kept.length c) ∧ OwnSl w 9 1 (.slice a kept.length c) kept.length (kept.map sv) ∧ ∀ b, K b ↔ (Value.slice a kept.length c).ownBlock = some b
  z72 : w.frozen? ⟨g, 72, none⟩ = false
  apart : ¬ K g
  ok : OkT n kept
theorem KeptAt.fr {g n : Nat} {S : Nat → Nat → Prop} {w w' : World} {K : Nat → Prop} {kept : List (List UInt8)} (h : KeptAt g n w K kept) (k : Fr S w w') (hS : ∀ o, 71 ≤ o → ¬ S g o) (hK : ∀ b o, K b → ¬ S b o) : KeptAt g n w' K kept := by
  have hl := World.block_lt_of_cell? w _ h.c71
  obtain ⟨a, c, h72, ho, hk⟩ := h.kv
  exact ⟨(k.cell g 71 hl (hS 71 (by omega))).trans h.c71, ⟨a, c, (k.cell g 72 hl (hS 72 (by omega))).trans h72, ho.fr k (fun b o e => hK b o ((hk b).2 e)), hk⟩, (k.frozen g 72 hl (hS 72 (by omega))).trans h.z72, h.apart, h.ok⟩
theorem Try.info9' : (Try.prog.info? 9).map (fun i => (i.zero, i.size, i.bytes)) = some (some (.string ⟨#[]⟩), 1, 16) := by kernel_rfl
theorem append_cons (l : List (List UInt8)) (s : List UInt8) : ∃ x xs, l ++ [s] = x :: xs := by
  cases l with
  | nil => exact ⟨s, [], rfl⟩
  | cons x xs => exact ⟨x, xs ++ [s], rfl⟩
set_option maxHeartbeats 4000000 in
set_option maxRecDepth 100000 in
theorem tail_line (g n : Nat) (hn : n ≤ 1000) (more : Bool) {w : World} {K : Nat → Prop} {kept : List (List UInt8)} (s : List UInt8) (hb : BaseAt w g more false) (hT : KeptAt g n w K kept) (h64 : s.length ≤ 64) :
    Calls Try.prog 59 #[.pointer (some ⟨g, 0, none⟩), sv s] w (LinePost (KeptAt g n) g more K (tailF n kept s) w) := by
  obtain ⟨i0, hi, hz0, hz1, hz2⟩ := info_parts Try.info9'
  have hgl := hb.lt
  obtain ⟨a, c, h72, hown, hK⟩ := hT.kv
  have h71 := hT.c71
  have z72 := hT.z72
  have hlen := hT.ok.1
  have hKg : (Value.slice a kept.length c).ownBlock ≠ some g := fun e => hT.apart ((hK g).2 e)
  have HT := Lib.hid hT; have HB := Lib.hid hb; have HO := Lib.hid hown; have HKK := Lib.hid hK
  clear hT hb hown hK
  by_cases hgt : n < kept.length + 1
  · have hgi : (n : Int) < (kept.length : Int) + 1 := by omega
    have hpush : tailF n kept s = ((kept ++ [s]).drop 1, [], false) := by unfold tailF pushT; rw [if_pos (by simpa using hgt)]
    have HPU := Lib.hid hpush; clear hpush
    have HGT := Lib.hid hgt; clear hgt
    go_enter Try.func59, Try.ntmps59
    go_wp2_with (first
      | (at_builtin; refine wpList_append_sl rfl (.tmp 9) (.tmp 11) 64 64 rfl 9 i0 (.string ⟨#[]⟩) 1 16 Try.underlying64 hi hz0 hz1 hz2 rfl (by decide) (.slice a kept.length c) kept.length (kept.map sv) rfl (HO.out.fr ((Fr.refl No w).alloc _) (fun _ _ _ e => e)) _ 1 [sv s] rfl (src_slice Try.underlying64 rfl (fun _ => ⟨w.heap.size, 0, rfl, row_at w #[sv s] _ rfl _ rfl 9 (0, 0)⟩) (by simp [Value.oneCell'])) (by omega) (by omega) ?_
         intro v1 w1 hown1 hfr1 hblk1
         obtain ⟨a1, c1, hv1, hat1, _⟩ := hown1.at
         subst hv1
         have fa : Fr (Blk (.slice a kept.length c)) w w1 := ((Fr.refl (Blk (.slice a kept.length c)) w).alloc _).trans hfr1
         have q71 : w1.cell? ⟨g, 71, none⟩ = some (.int .i64 n) := (fa.cell g 71 hgl (fun e => hKg e)).trans h71
         have q72 : w1.cell? ⟨g, 72, none⟩ = some (.slice a kept.length c) := (fa.cell g 72 hgl (fun e => hKg e)).trans h72
         have y72 : w1.frozen? ⟨g, 72, none⟩ = false := (fa.frozen g 72 hgl (fun e => hKg e)).trans z72
         have e72 : (w1.setCell ⟨g, 72, none⟩ (.slice a1 (kept.length + 1) c1)).cell? ⟨g, 72, none⟩ = some (.slice a1 (kept.length + 1) c1) := World.cell?_setCell_same _ _ _ q72
         have e71 : (w1.setCell ⟨g, 72, none⟩ (.slice a1 (kept.length + 1) c1)).cell? ⟨g, 71, none⟩ = some (.int .i64 n) := ((frSet w1 g 72 (.slice a1 (kept.length + 1) c1)).cell g 71 (World.block_lt_of_cell? _ _ q71) (fun e => by omega)).trans q71
         have ez72 : (w1.setCell ⟨g, 72, none⟩ (.slice a1 (kept.length + 1) c1)).frozen? ⟨g, 72, none⟩ = false := (by rw [World.frozen?_setCell]; exact y72)
         obtain ⟨aS, haS⟩ : ∃ x, x = subA a1 c1 1 1 := ⟨_, rfl⟩
         have hs1 : ∀ W : World, (Instr.slice 64 (.slice a1 (kept.length + 1) c1) (some (.int .i64 1)) none none).run Try.prog W = .ok (.slice aS kept.length (c1 - 1)) W := (fun W => by
           have h9 := run_slice_from (P := Try.prog) W 64 9 a1 (kept.length + 1) c1 1 i0 Try.underlying64 hi (by omega)
           rw [hz1, Nat.add_sub_cancel, ← haS] at h9; exact h9)
         have HAS := Lib.hid haS; clear haS
         have HO1 := Lib.hid hown1; have HFA := Lib.hid fa; have HB1 := Lib.hid hblk1
         clear hown1 hfr1 hblk1 fa hat1))
    go_region
    go_wp2
    go_ret
    rw [HPU.out]
    have KB := Lib.hid (show (Value.slice a1 (kept.length + 1) c1).ownBlock ≠ some g from fun e => by
      rcases HB1.out with h | h
      · rw [h] at e; exact hKg e
      · rw [h] at e; injection e with e; simp at e; omega)
    have KG := Lib.hid (show ∀ b, (Value.slice a1 (kept.length + 1) c1).ownBlock = some b → K b ∨ w.heap.size ≤ b from fun b e => by
      rcases HB1.out with h | h
      · rw [h] at e; exact .inl ((HKK.out b).2 e)
      · rw [h] at e; injection e with e; simp at e; exact .inr (by omega))
    have FW := Lib.hid (show Fr (fun b o => (b = g ∧ o = 72) ∨ K b) w (w1.setCell ⟨g, 72, none⟩ (.slice a1 (kept.length + 1) c1)) from (HFA.out.mono (fun b o _ e => .inr ((HKK.out b).2 e))).step (frSet w1 g 72 (.slice a1 (kept.length + 1) c1)) (fun b o _ e => .inl e))
    have OW := Lib.hid (HO1.out.fr (frSet w1 g 72 (.slice a1 (kept.length + 1) c1)) (fun b o e e2 => by have := e2.1; subst this; exact KB.out e))
    obtain ⟨x, xs, hx⟩ := append_cons kept s
    have hxl : xs.length = kept.length := by have := congrArg List.length hx; simp at this; omega
    have ow := OW.out
    rw [show kept.map sv ++ [sv s] = (kept ++ [s]).map sv from by simp, hx, List.map_cons] at ow
    obtain ⟨ot, ob⟩ := ow.tail
    rw [← HAS.out] at ot ob
    have f3 : Fr (fun b o => b = g ∧ o = 72) (w1.setCell ⟨g, 72, none⟩ (.slice a1 (kept.length + 1) c1)) ((w1.setCell ⟨g, 72, none⟩ (.slice a1 (kept.length + 1) c1)).setCell ⟨g, 72, none⟩ (.slice aS kept.length (c1 - 1))) := frSet _ _ _ _
    have FF : Fr (fun b o => (b = g ∧ o = 72) ∨ K b) w ((w1.setCell ⟨g, 72, none⟩ (.slice a1 (kept.length + 1) c1)).setCell ⟨g, 72, none⟩ (.slice aS kept.length (c1 - 1))).drew := (FW.out.step f3 (fun b o _ e => .inl e)).drew
    refine ⟨none, [], 0, fun b => (Value.slice a1 (kept.length + 1) c1).ownBlock = some b, rfl, rfl, outs_nil _ _, HB.out.fr FF (fun o ho e => by rcases e with e | e; (have := e.2; omega); exact hKg ((HKK.out g).1 e)), ?_, FF.mono (fun b o _ e => by rcases e with e | e; exact .inl ⟨e.1, .inr (by omega)⟩; exact .inr e), KG.out, ⟨(fun x off e => by cases e), (fun p hp => by cases hp)⟩⟩
    dsimp only
    rw [hx]
    refine ⟨(f3.cell g 71 (World.block_lt_of_cell? _ _ e71) (fun e => by omega)).trans e71, ⟨aS, c1 - 1, ?_, ?_, fun b => ?_⟩, by show World.frozen? (World.setCell _ _ _) _ = false; rw [World.frozen?_setCell]; exact ez72, KB.out, ?_⟩
    · rw [show (x :: xs).drop 1 = xs from rfl, hxl]; exact World.cell?_setCell_same _ _ _ e72
    · rw [show (x :: xs).drop 1 = xs from rfl, hxl]; exact (ot.fr f3 (fun b o e e2 => by have := e2.1; subst this; rw [ob] at e; exact KB.out e)).fr (Fr.refl No _).drew (fun _ _ _ e => e)
    · rw [show (x :: xs).drop 1 = xs from rfl, hxl, ob]
    · have := pushT_ok n kept s HT.out.ok h64
      unfold pushT at this
      rw [if_pos (by simpa using HGT.out), hx] at this
      exact this
  · have hgi : ¬ (n : Int) < (kept.length : Int) + 1 := by omega
    have hpush : tailF n kept s = (kept ++ [s], [], false) := by unfold tailF pushT; rw [if_neg (by simpa using hgt)]
    have HPU := Lib.hid hpush; clear hpush
    have HGT := Lib.hid hgt; clear hgt
    go_enter Try.func59, Try.ntmps59
    go_wp2_with (first
      | (at_builtin; refine wpList_append_sl rfl (.tmp 9) (.tmp 11) 64 64 rfl 9 i0 (.string ⟨#[]⟩) 1 16 Try.underlying64 hi hz0 hz1 hz2 rfl (by decide) (.slice a kept.length c) kept.length (kept.map sv) rfl (HO.out.fr ((Fr.refl No w).alloc _) (fun _ _ _ e => e)) _ 1 [sv s] rfl (src_slice Try.underlying64 rfl (fun _ => ⟨w.heap.size, 0, rfl, row_at w #[sv s] _ rfl _ rfl 9 (0, 0)⟩) (by simp [Value.oneCell'])) (by omega) (by omega) ?_
         intro v1 w1 hown1 hfr1 hblk1
         obtain ⟨a1, c1, hv1, hat1, _⟩ := hown1.at
         subst hv1
         have fa : Fr (Blk (.slice a kept.length c)) w w1 := ((Fr.refl (Blk (.slice a kept.length c)) w).alloc _).trans hfr1
         have q71 : w1.cell? ⟨g, 71, none⟩ = some (.int .i64 n) := (fa.cell g 71 hgl (fun e => hKg e)).trans h71
         have q72 : w1.cell? ⟨g, 72, none⟩ = some (.slice a kept.length c) := (fa.cell g 72 hgl (fun e => hKg e)).trans h72
         have y72 : w1.frozen? ⟨g, 72, none⟩ = false := (fa.frozen g 72 hgl (fun e => hKg e)).trans z72
         have e72 : (w1.setCell ⟨g, 72, none⟩ (.slice a1 (kept.length + 1) c1)).cell? ⟨g, 72, none⟩ = some (.slice a1 (kept.length + 1) c1) := World.cell?_setCell_same _ _ _ q72
         have e71 : (w1.setCell ⟨g, 72, none⟩ (.slice a1 (kept.length + 1) c1)).cell? ⟨g, 71, none⟩ = some (.int .i64 n) := ((frSet w1 g 72 (.slice a1 (kept.length + 1) c1)).cell g 71 (World.block_lt_of_cell? _ _ q71) (fun e => by omega)).trans q71
         have ez72 : (w1.setCell ⟨g, 72, none⟩ (.slice a1 (kept.length + 1) c1)).frozen? ⟨g, 72, none⟩ = false := (by rw [World.frozen?_setCell]; exact y72)
         obtain ⟨aS, haS⟩ : ∃ x, x = subA a1 c1 1 1 := ⟨_, rfl⟩
         have hs1 : ∀ W : World, (Instr.slice 64 (.slice a1 (kept.length + 1) c1) (some (.int .i64 1)) none none).run Try.prog W = .ok (.slice aS kept.length (c1 - 1)) W := (fun W => by
           have h9 := run_slice_from (P := Try.prog) W 64 9 a1 (kept.length + 1) c1 1 i0 Try.underlying64 hi (by omega)
           rw [hz1, Nat.add_sub_cancel, ← haS] at h9; exact h9)
         have HAS := Lib.hid haS; clear haS
         have HO1 := Lib.hid hown1; have HFA := Lib.hid fa; have HB1 := Lib.hid hblk1
         clear hown1 hfr1 hblk1 fa hat1))
    go_region
    go_wp2
    go_ret
    rw [HPU.out]
    have KB := Lib.hid (show (Value.slice a1 (kept.length + 1) c1).ownBlock ≠ some g from fun e => by
      rcases HB1.out with h | h
      · rw [h] at e; exact hKg e
      · rw [h] at e; injection e with e; simp at e; omega)
    have KG := Lib.hid (show ∀ b, (Value.slice a1 (kept.length + 1) c1).ownBlock = some b → K b ∨ w.heap.size ≤ b from fun b e => by
      rcases HB1.out with h | h
      · rw [h] at e; exact .inl ((HKK.out b).2 e)
      · rw [h] at e; injection e with e; simp at e; exact .inr (by omega))
    have FW := Lib.hid (show Fr (fun b o => (b = g ∧ o = 72) ∨ K b) w (w1.setCell ⟨g, 72, none⟩ (.slice a1 (kept.length + 1) c1)) from (HFA.out.mono (fun b o _ e => .inr ((HKK.out b).2 e))).step (frSet w1 g 72 (.slice a1 (kept.length + 1) c1)) (fun b o _ e => .inl e))
    have OW := Lib.hid (HO1.out.fr (frSet w1 g 72 (.slice a1 (kept.length + 1) c1)) (fun b o e e2 => by have := e2.1; subst this; exact KB.out e))
    have FF : Fr (fun b o => (b = g ∧ o = 72) ∨ K b) w (w1.setCell ⟨g, 72, none⟩ (.slice a1 (kept.length + 1) c1)).drew := FW.out.drew
    refine ⟨none, [], 0, fun b => (Value.slice a1 (kept.length + 1) c1).ownBlock = some b, rfl, rfl, outs_nil _ _, HB.out.fr FF (fun o ho e => by rcases e with e | e; (have := e.2; omega); exact hKg ((HKK.out g).1 e)), ?_, FF.mono (fun b o _ e => by rcases e with e | e; exact .inl ⟨e.1, .inr (by omega)⟩; exact .inr e), KG.out, ⟨(fun x off e => by cases e), (fun p hp => by cases hp)⟩⟩
    dsimp only
    refine ⟨e71, ⟨a1, c1, by rw [List.length_append]; exact e72, ?_, fun b => by rw [List.length_append]; exact Iff.rfl⟩, ez72, KB.out, ?_⟩
    · rw [List.length_append, List.map_append]; exact OW.out.fr (Fr.refl No _).drew (fun _ _ _ e => e)
    · have := pushT_ok n kept s HT.out.ok h64
      unfold pushT at this
      rw [if_neg (by simpa using HGT.out)] at this
      exact this
set_option maxRecDepth 100000 in
theorem tail_ok (g n : Nat) (hn : n ≤ 1000) : LineOk (tailF n) (KeptAt g n) g 59 false 0 where
  fr h k hS hK _ := h.fr k hS hK
  lt {w K t} h b hb := by
    obtain ⟨a, c, h72, ho, hk⟩ := h.kv
    exact ⟨ho.lt b ((hk b).1 hb), fun e => h.apart (e ▸ hb)⟩
  gB := Nat.zero_le _
  call s hb hT h64 := tail_line g n hn false s hb hT h64
  enter _ _ := by rfl
theorem tail_each (n : Nat) : EachOk (tailF n) := ⟨fun t l p hp => by simp [tailF] at hp, fun t l => by simp [tailF]⟩
end Go.Proofs.Ytcplbhjpefmliaa
