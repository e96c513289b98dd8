/- Tail: rest, End, More, Held. -/
import Derived.Test.YtcplbhjpefmliaaTaA
import Derived.Deep.RegionHeld3
namespace Go.Proofs.Ytcplbhjpefmliaa
open Go.RowKit

set_option maxRecDepth 100000 in
theorem pieces_b (g : Nat) (more over b : Bool) (w : World) (h : BaseAt w g more over) : Calls Try.prog 160 #[.pointer (some ⟨g, 0, none⟩), .bool b] w (fun e w' => e = .returned (.tuple #[]) ∧ w' = w.setCell ⟨g, 1, none⟩ (.bool b)) := by
  obtain ⟨c0, c1, c2, z1, z2⟩ := h
  go_enter Try.func160, Try.ntmps160
  go_wp2
  refine bodyPost_end (results_none rfl _ _ _) rfl ?_
  exact ⟨rfl, rfl⟩
theorem base_more {w : World} {g : Nat} {more over : Bool} (h : BaseAt w g more over) (b : Bool) : BaseAt (w.setCell ⟨g, 1, none⟩ (.bool b)) g b over := by
  have hl := h.lt
  have st := frSet w g 1 (.bool b)
  exact ⟨(st.cell g 0 hl (fun e => by omega)).trans h.c0, World.cell?_setCell_same _ _ _ h.c1, (st.cell g 2 hl (fun e => by omega)).trans h.c2, by rw [World.frozen?_setCell]; exact h.z1, by rw [World.frozen?_setCell]; exact h.z2⟩
theorem base_stop {w : World} {g : Nat} {more over : Bool} (h : BaseAt w g more over) : BaseAt (w.setCell ⟨g, 2, none⟩ (.bool true)) g more true := by
  have hl := h.lt
  have st := frSet w g 2 (.bool true)
  exact ⟨(st.cell g 0 hl (fun e => by omega)).trans h.c0, (st.cell g 1 hl (fun e => by omega)).trans h.c1, World.cell?_setCell_same _ _ _ h.c2, by rw [World.frozen?_setCell]; exact h.z1, by rw [World.frozen?_setCell]; exact h.z2⟩
/-- What rest leaves. -/
def RestPost (g n : Nat) (K : Nat → Prop) (kept : List (List UInt8)) (w : World) (e : Ending) (w' : World) : Prop :=
  e = .returned (.tuple #[]) ∧ BaseAt w' g (decide (kept ≠ [])) (decide (kept = [])) ∧ KeptAt g n w' K kept ∧ Fr (fun b o => b = g ∧ (o = 1 ∨ o = 2)) w w'
set_option maxHeartbeats 4000000 in
set_option maxRecDepth 100000 in
theorem rest_any (g n : Nat) (more : Bool) (w : World) (K : Nat → Prop) (kept : List (List UInt8)) (hb : BaseAt w g more false) (hT : KeptAt g n w K kept) : Calls Try.prog 152 #[.pointer (some ⟨g, 0, none⟩)] w (RestPost g n K kept w) := by
  have hgl := hb.lt
  obtain ⟨a, c, h72, hown, hK⟩ := hT.kv
  have HT := Lib.hid hT; have HB := Lib.hid hb
  have HD := Lib.hid (show BaseAt w.drew g more false from ⟨hb.c0, hb.c1, hb.c2, hb.z1, hb.z2⟩)
  clear hT hb hown hK
  have h72' : w.drew.cell? ⟨g, 72, none⟩ = some (.slice a kept.length c) := h72
  by_cases hk : kept = []
  · have hl0 : kept.length = 0 := by rw [hk]; rfl
    have hd1 : decide (kept ≠ []) = false := by simp [hk]
    have hd2 : decide (kept = []) = true := by simp [hk]
    rw [hl0] at h72 h72'
    have HD1 := Lib.hid hd1; have HD2 := Lib.hid hd2
    clear hk hl0 hd1 hd2
    go_enter Try.func152, Try.ntmps152
    go_wp2_with fail
    go_region_held3 (fun W => W.cell? ⟨g, 72, none⟩ = some (.slice a 0 c))
      (first | exact h72' | exact k2)
      (first | (go_at_call 160; refine (pieces_b g more false false _ HD.out).mono ?_; rintro e2 w2 ⟨rfl, hw2⟩
                have k2 : w2.cell? ⟨g, 72, none⟩ = some (.slice a 0 c) := (by rw [hw2]; exact ((frSet w.drew g 1 (.bool false)).cell g 72 hgl (fun e => by omega)).trans h72')
                have HB2 := Lib.hid (show BaseAt w2 g false false from by rw [hw2]; exact base_more HD.out false)
                have HF2 := Lib.hid (show Fr (fun b o => b = g ∧ (o = 1 ∨ o = 2)) w w2 from by rw [hw2]; exact (Fr.refl _ _).drew.step (frSet w.drew g 1 (.bool false)) (fun b o _ e => ⟨e.1, .inl e.2⟩))
                clear hw2))
    go_wp2_with (first
      | (go_at_call 149; refine (stop_b g false false _ HB2.out).mono ?_; rintro e3 w3 ⟨rfl, hw3⟩; have HW3 := Lib.hid hw3; clear hw3))
    refine bodyPost_end (results_none rfl _ _ _) rfl ?_
    have ff : Fr (fun b o => b = g ∧ (o = 1 ∨ o = 2)) w w3 := by rw [HW3.out]; exact HF2.out.step (frSet w2 g 2 (.bool true)) (fun b o _ e => ⟨e.1, .inr e.2⟩)
    exact ⟨rfl, by rw [HD1.out, HD2.out, HW3.out]; exact base_stop HB2.out, HT.out.fr ff (fun o ho e => by omega) (fun b o hb e => HT.out.apart (e.1 ▸ hb)), ff⟩
  · have hlp : 0 < kept.length := List.length_pos_iff.2 hk
    have hli : decide (0 < kept.length) = true := decide_eq_true hlp
    have hle : ((kept.length : Int) == 0) = false := by simp; exact hk
    have hd1 : decide (kept ≠ []) = true := by simp [hk]
    have hd2 : decide (kept = []) = false := by simp [hk]
    have HD1 := Lib.hid hd1; have HD2 := Lib.hid hd2
    clear hk hd1 hd2 hlp
    go_enter Try.func152, Try.ntmps152
    go_wp2_with fail
    go_region_held3 (fun W => W.cell? ⟨g, 72, none⟩ = some (.slice a kept.length c))
      (first | exact h72' | exact k2)
      (first | (go_at_call 160; refine (pieces_b g more false true _ HD.out).mono ?_; rintro e2 w2 ⟨rfl, hw2⟩
                have k2 : w2.cell? ⟨g, 72, none⟩ = some (.slice a kept.length c) := (by rw [hw2]; exact ((frSet w.drew g 1 (.bool true)).cell g 72 hgl (fun e => by omega)).trans h72')
                have HB2 := Lib.hid (show BaseAt w2 g true false from by rw [hw2]; exact base_more HD.out true)
                have HF2 := Lib.hid (show Fr (fun b o => b = g ∧ (o = 1 ∨ o = 2)) w w2 from by rw [hw2]; exact (Fr.refl _ _).drew.step (frSet w.drew g 1 (.bool true)) (fun b o _ e => ⟨e.1, .inl e.2⟩))
                clear hw2))
    go_wp2
    refine bodyPost_end (results_none rfl _ _ _) rfl ?_
    exact ⟨rfl, by rw [HD1.out, HD2.out]; exact HB2.out, HT.out.fr HF2.out (fun o ho e => by omega) (fun b o hb e => HT.out.apart (e.1 ▸ hb)), HF2.out⟩
/-- The machine at g, its kept lines in the blocks K. -/
structure TRep (g n kL : Nat) (w : World) (K : Nat → Prop) (s : TS) : Prop where
  base : BaseAt w g s.more s.over
  spl : SplAt w g 3 s.cs s.failed
  each : w.cell? ⟨g, 69, none⟩ = some (evC kL g)
  last : w.cell? ⟨g, 70, none⟩ = some .nilFunc
  own : KeptAt g n w K s.kept
  inv : s.over = false → s.more = false → s.failed = false
  some_ : s.over = false → s.more = true → s.kept ≠ []
def TaR (g n kL : Nat) (w : World) (F : Nat → Prop) (s : TS) : Prop := ∃ K, (∀ x, F x ↔ x = g ∨ K x) ∧ TRep g n kL w K s
theorem TRep.fr {g n kL : Nat} {S : Nat → Nat → Prop} {w w' : World} {K : Nat → Prop} {s : TS} (h : TRep g n kL w K s) (k : Fr S w w') (hS : ∀ o, ¬ S g o) (hK : ∀ b o, K b → ¬ S b o) : TRep g n kL w' K s := by
  have hl := h.base.lt
  exact ⟨h.base.fr k (fun o _ => hS o), h.spl.fr k (fun i _ => hS _), (k.cell g 69 hl (hS _)).trans h.each, (k.cell g 70 hl (hS _)).trans h.last, h.own.fr k (fun o _ => hS o) hK, h.inv, h.some_⟩
theorem weight_len : ∀ l : List (List UInt8), (∀ x ∈ l, x.length ≤ 64) → weight l ≤ 64 * l.length
  | [], _ => by simp [weight]
  | x :: l, h => by
    have h1 := h x (by simp)
    have h2 := weight_len l (fun y hy => h y (by simp [hy]))
    simp [weight] at h2 ⊢
    omega
theorem weight_take (l : List (List UInt8)) (k : Nat) (h : k < l.length) : weight (l.take (k + 1)) = weight (l.take k) + l[k].length := by
  unfold weight
  rw [List.take_succ_eq_append_getElem h, List.map_append, List.sum_append]
  simp
set_option maxRecDepth 100000 in
theorem lheld_s (g : Nat) (cs : List UInt8) (failed : Bool) (w : World) (h : SplAt w g 3 cs failed) : Calls Try.prog 157 #[.pointer (some ⟨g, 0, none⟩)] w (Ret w (.int .i64 cs.length)) := by
  have hb := begun_any g 3 cs.length w h.n
  have HB := Lib.hid hb; clear hb
  go_enter Try.func157, Try.ntmps157
  go_wp2_with (go_at_call 159; refine HB.out.mono ?_; rintro e w' ⟨rfl, rfl⟩)
  go_ret
  exact ⟨rfl, rfl⟩
set_option maxHeartbeats 2000000 in
set_option maxRecDepth 100000 in
theorem theld_any (g n kL : Nat) (hn : n ≤ 1000) (w : World) (K : Nat → Prop) (s : TS) (h : TRep g n kL w K s) : Calls Try.prog 146 #[.pointer (some ⟨g, 0, none⟩)] w (Ret w (.int .i64 ((s.cs.length + weight s.kept : Nat) : Int))) := by
  have HLH := Lib.hid (lheld_s g s.cs s.failed w h.spl)
  have hcs := h.spl.len
  obtain ⟨a, c, h72, hown, _⟩ := h.own.kv
  have hlen := h.own.ok.1
  have h64 := h.own.ok.2
  have hgl := h.base.lt
  clear h
  generalize s.cs = cs at *
  generalize s.kept = kept at *
  have HW := Lib.hid (fun k : Nat => Nat.le_trans (weight_len (kept.take k) (fun x hx => h64 x (List.mem_of_mem_take hx))) (Nat.mul_le_mul_left 64 (show (kept.take k).length ≤ kept.length by simp; omega)))
  have HOW := Lib.hid hown
  clear hown h64
  go_enter Try.func146, Try.ntmps146
  go_wp2_with (go_at_call 157; refine HLH.out.mono ?_; rintro e w' ⟨rfl, rfl⟩)
  go_loop [3, 15] (fun m i => ∃ k : Nat, k ≤ kept.length ∧ i = .int .i64 k ∧ m = .int .i64 ((cs.length + weight (kept.take k) : Nat) : Int)) (fun _ i => kept.length - (intOf i).toNat)
  case atStart => exact ⟨0, Nat.zero_le _, rfl, by simp [weight]⟩
  case round =>
    obtain ⟨k, hk, rfl, rfl⟩ := hrel
    by_cases hlt : k < kept.length
    · have hki : (k : Int) < kept.length := by omega
      obtain ⟨gb, o, rfl, hcell, _⟩ := HOW.out.get hlt
      rw [List.getD_eq_getElem?_getD, List.getElem?_map, List.getElem?_eq_getElem hlt] at hcell
      simp only [Option.map_some, Option.getD_some] at hcell
      have hwt := weight_take kept k hlt
      have hb := HW.out (k + 1)
      rw [hwt] at hb
      have HWT := Lib.hid hwt; clear hwt
      generalize kept[k] = x at *
      generalize weight (kept.take k) = q at *
      have hsum : IntKind.i64.wrap (((cs.length + q : Nat) : Int) + x.length) = ((cs.length + (q + x.length) : Nat) : Int) := by rw [IntKind.wrap_i64]; omega
      go_wp2
      go_round
      case rel => exact ⟨k + 1, by omega, by go_num, by rw [HWT.out]; first | rfl | (rw [hsum]) | (go_num)⟩
      case measure => simp [intOf]; omega
    · obtain rfl : k = kept.length := by omega
      rw [List.take_length]
      go_wp2
      go_ret
      exact ⟨rfl, rfl⟩
end Go.Proofs.Ytcplbhjpefmliaa
