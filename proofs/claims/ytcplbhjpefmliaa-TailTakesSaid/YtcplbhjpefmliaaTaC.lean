/- Tail: End, More. -/
import Derived.Test.YtcplbhjpefmliaaTaB
namespace Go.Proofs.Ytcplbhjpefmliaa
open Go.RowKit

/-- How rest leaves the machine. -/
theorem trep_rest {g n kL : Nat} {w w' : World} {K : Nat → Prop} {cs : List UInt8} {failed : Bool} {kept : List (List UInt8)} (hs : SplAt w g 3 cs failed) (he : w.cell? ⟨g, 69, none⟩ = some (evC kL g)) (hl : w.cell? ⟨g, 70, none⟩ = some .nilFunc) (hgl : g < w.heap.size)
    (hB : BaseAt w' g (decide (kept ≠ [])) (decide (kept = []))) (hK : KeptAt g n w' K kept) (k : Fr (fun b o => b = g ∧ (o = 1 ∨ o = 2)) w w') : TRep g n kL w' K ⟨cs, failed, decide (kept = []), decide (kept ≠ []), kept⟩ :=
  ⟨hB, hs.fr k (fun i hi e => by omega), (k.cell g 69 hgl (fun e => by omega)).trans he, (k.cell g 70 hgl (fun e => by omega)).trans hl, hK, fun h1 h2 => by simp at h1 h2; exact absurd h2 h1, fun h1 _ => by simpa using h1⟩
set_option maxHeartbeats 4000000 in
set_option maxRecDepth 100000 in
theorem tend_any (g n : Nat) (hn : n ≤ 1000) (w : World) (K F : Nat → Prop) (hF : ∀ x, F x ↔ x = g ∨ K x) (s : TS) (h : TRep g n 59 w K s) (hov : s.over = false) (hmo : s.more = false) :
    Calls Try.prog 144 #[.pointer (some ⟨g, 0, none⟩), .int .i64 0] w (AnsPost (TaR g n 59) F w (finT n s)) := by
  have hb := h.base
  rw [hov, hmo] at hb
  have hgl := hb.lt
  have ht := ends_b g false false 0 w hb
  rw [show endsB false false 0 = 0 from rfl] at ht
  have hrest := rest_calls g 3 s.cs s.failed w h.spl
  have h64 := h.spl.len
  have h69 := h.each
  have h70 := h.last
  have hown := h.own
  obtain ⟨cs, failed, over, more, kept⟩ := s
  dsimp only at *
  subst hov; subst hmo
  have HE := Lib.hid ht; have HR := Lib.hid hrest; have HB := Lib.hid hb; have HOW := Lib.hid hown
  clear ht hrest hb hown h
  by_cases hcs : cs = []
  · subst hcs
    have e0 : finT n ⟨[], failed, false, false, kept⟩ = (⟨[], failed, decide (kept = []), decide (kept ≠ []), kept⟩, [], 0) := by simp [finT, restT, keptT]
    have HE0 := Lib.hid e0; clear e0
    go_enter Try.func144, Try.ntmps144
    go_wp2_with (first
      | (go_at_call 150; refine HE.out.mono ?_; rintro e w' ⟨rfl, rfl⟩)
      | (go_at_call 151; refine HR.out.mono ?_; rintro e1 w1 ⟨rfl, hs1, hf1⟩
         have HS1 := Lib.hid hs1; have HF1 := Lib.hid hf1; clear hs1 hf1)
      | (go_at_call 152; refine (rest_any g n false _ K kept (HB.out.fr HF1.out (fun o ho e => by have := e.2.1; omega)) (HOW.out.fr HF1.out (fun o ho e => by have := e.2.2; omega) (fun b o hb e => HOW.out.apart (e.1 ▸ hb)))).mono ?_; rintro e2 w2 ⟨rfl, hB2, hK2, hf2⟩
         have HB2 := Lib.hid hB2; have HK2 := Lib.hid hK2; have HF2 := Lib.hid hf2; clear hB2 hK2 hf2))
    go_ret2
    rw [HE0.out]
    have hgl1 : g < w1.heap.size := by have := HF1.out.size; omega
    exact ⟨none, [], 0, F, rfl, rfl, ⟨by simp, by simp⟩, outs_nil _ _, ⟨K, hF, trep_rest HS1.out ((HF1.out.cell g 69 hgl (fun e => by have := e.2.2; omega)).trans h69) ((HF1.out.cell g 70 hgl (fun e => by have := e.2.2; omega)).trans h70) hgl1 HB2.out HK2.out HF2.out⟩,
      ((HF1.out.mono (fun b _ _ e => (hF b).2 (.inl e.1))).step HF2.out (fun b _ _ e => (hF b).2 (.inl e.1))), fun y hy => .inl hy⟩
  · have e0 : finT n ⟨cs, failed, false, false, kept⟩ = (⟨[], failed, decide (pushT n kept cs = []), decide (pushT n kept cs ≠ []), pushT n kept cs⟩, [], 0) := by simp [finT, restT, keptT, hcs]
    have hem : (!cs.isEmpty) = true := by simpa using hcs
    have hr := HR.out
    rw [hem] at hr
    have HE0 := Lib.hid e0; have HR := Lib.hid hr; clear e0 hr hem hcs
    go_enter Try.func144, Try.ntmps144
    go_wp2_with (first
      | (go_at_call 150; refine HE.out.mono ?_; rintro e w' ⟨rfl, rfl⟩)
      | (go_at_call 151; refine HR.out.mono ?_; rintro e1 w1 ⟨rfl, hs1, hf1⟩
         have HS1 := Lib.hid hs1; have HF1 := Lib.hid hf1; clear hs1 hf1)
      | (go_at_call 59; refine (tail_line g n hn false cs (HB.out.fr HF1.out (fun o ho e => by have := e.2.1; omega)) (HOW.out.fr HF1.out (fun o ho e => by have := e.2.2; omega) (fun b o hb e => HOW.out.apart (e.1 ▸ hb))) h64).mono ?_; rintro e3 w3 ⟨a3, ps3, c3, K3, rfl, hbo3, ho3, hB3, hK3, hf3, hk3, _⟩
         have HB3 := Lib.hid (show BaseAt w3 g false false from hB3); have HK3 := Lib.hid (show KeptAt g n w3 K3 (pushT n kept cs) from hK3); have HF3 := Lib.hid hf3; have HG3 := Lib.hid hk3; clear hB3 hK3 hf3 hbo3 ho3 hk3)
      | (go_at_call 152; refine (rest_any g n false _ K3 (pushT n kept cs) HB3.out HK3.out).mono ?_; rintro e2 w2 ⟨rfl, hB2, hK2, hf2⟩
         have HB2 := Lib.hid hB2; have HK2 := Lib.hid hK2; have HF2 := Lib.hid hf2; clear hB2 hK2 hf2))
    go_ret2
    rw [HE0.out]
    have hs1 := HF1.out.size
    have hgl3 : g < w3.heap.size := HB3.out.lt
    have hgl1 : g < w1.heap.size := by omega
    have hKg : ¬ K g := HOW.out.apart
    have no : ∀ o, (o < 71 ∧ o ≠ 2) → ¬ LineS g K g o := fun o ho e => by rcases e with e | e; (have := e.2; omega); exact hKg e
    exact ⟨none, [], 0, fun y => y = g ∨ K3 y, rfl, rfl, ⟨by simp, by simp⟩, outs_nil _ _, ⟨K3, fun _ => Iff.rfl, trep_rest (HS1.out.fr HF3.out (fun i hi => no _ (by omega))) ((HF3.out.cell g 69 hgl1 (no _ (by omega))).trans ((HF1.out.cell g 69 hgl (fun e => by have := e.2.2; omega)).trans h69)) ((HF3.out.cell g 70 hgl1 (no _ (by omega))).trans ((HF1.out.cell g 70 hgl (fun e => by have := e.2.2; omega)).trans h70)) hgl3 HB2.out HK2.out HF2.out⟩,
      (((HF1.out.mono (fun b _ _ e => (hF b).2 (.inl e.1))).step HF3.out (fun b _ _ e => by rcases e with e | e; exact (hF b).2 (.inl e.1); exact (hF b).2 (.inr e))).step HF2.out (fun b _ _ e => (hF b).2 (.inl e.1))), fun y hy => by
        rcases hy with hy | hy
        · exact .inl ((hF y).2 (.inl hy))
        · rcases HG3.out y hy with h9 | h9
          · exact .inl ((hF y).2 (.inr h9))
          · exact .inr (by omega)⟩
theorem tell_one_at (s : List UInt8) (W : World) (g : Nat) (hg : g = W.heap.size) (hl : s.length ≤ 100000) :
    Calls Try.prog 77 #[.int .i64 0, .slice (some ⟨g, 0, none⟩) 1 1] (W.alloc (.cells #[sv s] 9)) (PcsPost (W.alloc (.cells #[sv s] 9)) [s ++ [10]]) :=
  tell_one _ _ s _ (fun _ => ⟨g, 0, rfl, row_at W #[sv s] _ rfl g hg 9 (0, 0)⟩) hl
set_option maxHeartbeats 4000000 in
set_option maxRecDepth 100000 in
theorem tmore_any (g n : Nat) (hn : n ≤ 1000) (w : World) (K F : Nat → Prop) (hF : ∀ x, F x ↔ x = g ∨ K x) (s : TS) (h : TRep g n 59 w K s) (hov : s.over = false) (hmo : s.more = true) :
    Calls Try.prog 147 #[.pointer (some ⟨g, 0, none⟩)] w (AnsPost (TaR g n 59) F w (moreT s)) := by
  obtain ⟨i0, hi, hz0, hz1, hz2⟩ := info_parts Try.info9'
  have hb := h.base
  rw [hov, hmo] at hb
  have hgl := hb.lt
  have ht := asks_b g true false w hb
  rw [show asksB true false = 0 from rfl] at ht
  have hspl := h.spl
  have h69 := h.each
  have h70 := h.last
  have hown := h.own
  have hne := h.some_ hov hmo
  obtain ⟨cs, failed, over, more, kept⟩ := s
  dsimp only at *
  subst hov; subst hmo
  obtain ⟨p, l, rfl⟩ : ∃ p l, kept = p :: l := by
    cases kept with
    | nil => exact absurd rfl hne
    | cons p l => exact ⟨p, l, rfl⟩
  obtain ⟨a, c, h72, hsl, hKK⟩ := hown.kv
  have hp64 := hown.ok.2 p (by simp)
  have hz72 := hown.z72
  have hokl : OkT n l := ⟨by have := hown.ok.1; simp at this; omega, fun x hx => hown.ok.2 x (by simp [hx])⟩
  rw [List.length_cons, List.map_cons] at hsl
  rw [List.length_cons] at h72 hKK
  obtain ⟨ot, ob⟩ := hsl.tail
  obtain ⟨gb, o, rfl, hcell, _⟩ := hsl.get (j := 0) (by omega)
  rw [Nat.add_zero] at hcell
  simp only [List.getD_cons_zero] at hcell
  obtain ⟨aS, haS⟩ : ∃ x, x = subA (some ⟨gb, o, none⟩) c 1 1 := ⟨_, rfl⟩
  rw [← haS] at ot ob
  have hs1 : ∀ W : World, (Instr.slice 64 (.slice (some ⟨gb, o, none⟩) (l.length + 1) c) (some (.int .i64 1)) none none).run Try.prog W = .ok (.slice aS l.length (c - 1)) W := (fun W => by
    have h9 := run_slice_from (P := Try.prog) W 64 9 (some ⟨gb, o, none⟩) (l.length + 1) c 1 i0 Try.underlying64 hi (by omega)
    rw [hz1, Nat.add_sub_cancel, ← haS] at h9; exact h9)
  have st := frSet w g 72 (.slice aS l.length (c - 1))
  have HK1 := Lib.hid (show KeptAt g n (w.setCell ⟨g, 72, none⟩ (.slice aS l.length (c - 1))) K l from ⟨(st.cell g 71 hgl (fun e => by omega)).trans hown.c71, ⟨aS, c - 1, World.cell?_setCell_same _ _ _ h72, ot.fr st (fun b o e e2 => by have := e2.1; subst this; rw [ob] at e; exact hown.apart ((hKK _).2 e)), fun b => by rw [ob]; exact hKK b⟩, by rw [World.frozen?_setCell]; exact hz72, hown.apart, hokl⟩)
  have HB1 := Lib.hid (hb.fr st (fun o ho e => by omega))
  have HA := Lib.hid ht; have HSP := Lib.hid hspl; have HAP := Lib.hid hown.apart
  have hli : (0 : Int) < (l.length : Int) + 1 := by omega
  clear ht hspl hb hown hsl hKK ot ob haS hz1 h hokl
  go_enter Try.func147, Try.ntmps147
  go_wp2_with (first
    | (go_at_call 158; refine HA.out.mono ?_; rintro e w' ⟨rfl, rfl⟩)
    | (go_at_call 152; refine (rest_any g n true _ K l HB1.out HK1.out).mono ?_; rintro e2 w2 ⟨rfl, hB2, hK2, hf2⟩
       have HB2 := Lib.hid hB2; have HK2 := Lib.hid hK2; have HF2 := Lib.hid hf2; clear hB2 hK2 hf2)
    | (go_at_call 77; refine (tell_one_at p w2 w2.heap.size rfl (by omega)).mono ?_; rintro e3 w3 ⟨a3, ps3, c3, rfl, hbo3, ho3, hf3⟩
       have HO3 := Lib.hid ho3; have HF3 := Lib.hid (((Fr.refl No w2).alloc (.cells #[sv p] 9)).trans hf3); have HBO := Lib.hid hbo3; clear ho3 hf3 hbo3))
  go_ret2
  have hm : moreT ⟨cs, failed, false, true, p :: l⟩ = (⟨cs, failed, decide (l = []), decide (l ≠ []), l⟩, [p ++ [10]], 0) := by simp [moreT, restT]
  rw [hm]
  have hs2 := HF2.out.size
  simp at hs2
  have hgl1 : g < (w.setCell ⟨g, 72, none⟩ (.slice aS l.length (c - 1))).heap.size := by simp; exact hgl
  have TR := trep_rest (HSP.out.fr st (fun i hi e => by omega)) ((st.cell g 69 hgl (fun e => by omega)).trans h69) ((st.cell g 70 hgl (fun e => by omega)).trans h70) hgl1 HB2.out HK2.out HF2.out
  refine ⟨a3, ps3, c3, F, rfl, HBO.out, ⟨by simp, by simp; omega⟩, ⟨HO3.out.cells, fun x off e => by have := HO3.out.new x off e; simp at this; omega, fun q hq => ⟨(HO3.out.bytes q hq).1, fun x off e => by have := (HO3.out.bytes q hq).2 x off e; simp at this; omega⟩⟩, ⟨K, hF, TR.fr HF3.out (fun _ e => e) (fun _ _ _ e => e)⟩, ?_, fun y hy => .inl hy⟩
  exact (((Fr.refl (InF F) w).step st (fun b o _ e => (hF b).2 (.inl e.1))).step HF2.out (fun b o _ e => (hF b).2 (.inl e.1))).step HF3.out (fun _ _ _ e => e.elim)
end Go.Proofs.Ytcplbhjpefmliaa
