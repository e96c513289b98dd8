/- Machines of lines: Feed, End, Held. -/
import Derived.Test.YtppgojcfgdooiaaLinB
import Derived.Test.YtppgojcfgdooiaaPlain
import Derived.Deep.RegionHeld3
namespace Go.Proofs.Ytppgojcfgdooiaa
open Go.RowKit

/-- A machine of lines lies at g. -/
structure LRep {τ : Type} (T : World → τ → Prop) (g kL : Nat) (w : World) (s : LS τ) : Prop where
  base : BaseAt w g false s.over
  spl : SplAt w g 3 s.cs s.failed
  each : w.cell? ⟨g, 69, none⟩ = some (evC kL g)
  last : w.cell? ⟨g, 70, none⟩ = some .nilFunc
  own : T w s.t
  inv : s.over = false → s.failed = false
def LR {τ : Type} (T : World → τ → Prop) (g kL : Nat) (w : World) (F : Nat → Prop) (s : LS τ) : Prop := (∀ x, F x ↔ x = g) ∧ LRep T g kL w s
theorem LRep.fr {τ : Type} {f : Each τ} {T : World → τ → Prop} {g kL : Nat} (hL : LineOk f T g kL false) {S : Nat → Nat → Prop} {w w' : World} {s : LS τ} (h : LRep T g kL w s) (k : Fr S w w') (hS : ∀ o, ¬ S g o) : LRep T g kL w' s := by
  have hl := h.base.lt
  exact ⟨h.base.fr k (fun o _ => hS o), h.spl.fr k (fun i _ => hS _), (k.cell g 69 hl (hS _)).trans h.each, (k.cell g 70 hl (hS _)).trans h.last, hL.fr h.own k (fun o _ => hS o), h.inv⟩
theorem LR.fr {τ : Type} {f : Each τ} {T : World → τ → Prop} {g kL : Nat} (hL : LineOk f T g kL false) {S : Nat → Nat → Prop} {w w' : World} {F : Nat → Prop} {s : LS τ} (h : LR T g kL w F s) (k : Fr S w w') (hS : ∀ b o, F b → ¬ S b o) : LR T g kL w' F s :=
  ⟨h.1, h.2.fr hL k (fun o => hS g o ((h.1 g).2 rfl))⟩
set_option maxRecDepth 100000 in
theorem held_l {τ : Type} {T : World → τ → Prop} {g kL : Nat} (w : World) (s : LS τ) (h : LRep T g kL w s) : Calls Try.prog 95 #[.pointer (some ⟨g, 0, none⟩)] w (Ret w (.int .i64 s.cs.length)) := by
  have hb := begun_any g 3 s.cs.length w h.spl.n
  have HB := Lib.hid hb; clear hb
  go_enter Try.func95, Try.ntmps95
  go_wp2_with (go_at_call 104; refine HB.out.mono ?_; rintro e w' ⟨rfl, rfl⟩)
  go_ret
  exact ⟨rfl, rfl⟩
/- Feed that is refused. -/
set_option maxRecDepth 100000 in
theorem feed_no {τ : Type} {T : World → τ → Prop} {g kL : Nat} (w : World) (s : LS τ) (h : LRep T g kL w s) (p : Int) (a : Option Addr) (n c : Nat) (r : Int) (hr : takesB false s.over p n = r) (h0 : r ≠ 0) :
    Calls Try.prog 94 #[.pointer (some ⟨g, 0, none⟩), .int .i64 p, .slice a n c] w (Ret w (.tuple #[.slice none 0 0, .int .i64 r])) := by
  have ht := takes_b g false s.over p a n c w h.base
  rw [hr] at ht
  have hrb : (r != 0) = true := by simpa using h0
  have HT := Lib.hid ht; clear ht h0 hr h
  go_enter Try.func94, Try.ntmps94
  go_wp2_with (go_at_call 102; refine HT.out.mono ?_; rintro e w' ⟨rfl, rfl⟩)
  go_ret2
  exact ⟨rfl, rfl⟩
/- End that is refused. -/
set_option maxRecDepth 100000 in
theorem end_no {τ : Type} {T : World → τ → Prop} {g kL : Nat} (w : World) (s : LS τ) (h : LRep T g kL w s) (p : Int) (r : Int) (hr : endsB false s.over p = r) (h0 : r ≠ 0) :
    Calls Try.prog 93 #[.pointer (some ⟨g, 0, none⟩), .int .i64 p] w (Ret w (.tuple #[.slice none 0 0, .int .i64 r])) := by
  have ht := ends_b g false s.over p w h.base
  rw [hr] at ht
  have hrb : (r != 0) = true := by simpa using h0
  have HT := Lib.hid ht; clear ht h0 hr h
  go_enter Try.func93, Try.ntmps93
  go_wp2_with (go_at_call 98; refine HT.out.mono ?_; rintro e w' ⟨rfl, rfl⟩)
  go_ret2
  exact ⟨rfl, rfl⟩

/-- What a line may make come out. -/
structure EachOk {τ : Type} (f : Each τ) : Prop where
  full : ∀ t l, ∀ p ∈ (f t l).2.1, p ≠ []
  weight : ∀ t l, (f t l).2.1.flatten.length ≤ l.length + 1
/-- What an answer leaves of a machine of lines. -/
def LAns {τ : Type} (T : World → τ → Prop) (g kL : Nat) (r : LS τ × List (List UInt8) × Int) (w : World) (e : Ending) (w' : World) : Prop :=
  ∃ a ps c, e = .returned (.tuple #[.slice a ps.length c, .int .i64 r.2.2]) ∧ bytesOf ps = r.2.1 ∧ Outs w' w.heap.size a ps ∧ LRep T g kL w' r.1 ∧ Fr (fun b _ => b = g) w w'
set_option maxHeartbeats 4000000 in
set_option maxRecDepth 100000 in
theorem feed_l {τ : Type} {f : Each τ} {T : World → τ → Prop} {g kL : Nat} (hL : LineOk f T g kL false) (hE : EachOk f) (w : World) (s : LS τ) (h : LRep T g kL w s) (hov : s.over = false) (x off : Nat) (bs : List UInt8) (cap : Nat) (ha : Bts w x off bs) (hxg : x ≠ g) (h1 : 1 ≤ bs.length) (h32 : bs.length ≤ 32) :
    Calls Try.prog 94 #[.pointer (some ⟨g, 0, none⟩), .int .i64 0, .slice (some ⟨x, off, none⟩) bs.length cap] w (LAns T g kL (feedL f s bs) w) := by
  have hfl := h.inv hov
  have hlt := h.base.lt
  have ht := takes_b g false s.over 0 (some ⟨x, off, none⟩) bs.length cap w h.base
  rw [hov, show takesB false false 0 bs.length = 0 from by unfold takesB endsB; rw [if_neg (by simp), if_neg (by omega)]] at ht
  have hspl := h.spl
  rw [hfl] at hspl
  have hcut := cut_any g 3 x off cap s.cs bs w hspl ha hxg (by omega)
  have hklen := cutM_len bs s.cs []
  simp only [List.length_nil, Nat.zero_add] at hklen
  have hk64 := cutM_short bs s.cs [] h.spl.len (by simp)
  have hkf := cutM_failed bs s.cs []
  have hbg := cutM_begun bs s.cs [] h.spl.len
  have hout : (eachs f s.t (cutM bs s.cs []).1).2.1.length ≤ 2000 := by
    have e1 := eachs_full f hE.full (cutM bs s.cs []).1 s.t
    have e2 := eachs_weight f hE.weight (cutM bs s.cs []).1 s.t
    have e3 := outOk_len _ e1
    have e4 := cutM_weight bs s.cs []
    have e5 := h.spl.len
    have e6 : (joinM (cutM bs s.cs []).1).length ≤ 96 := by simp [joinM] at e4 ⊢; omega
    omega
  have hbase := h.base
  rw [hov] at hbase
  have c69 := h.each
  have c70 := h.last
  have hown := h.own
  unfold feedL
  dsimp only
  generalize cutM bs s.cs [] = k at *
  obtain ⟨ls, rest, fl⟩ := k
  dsimp only at *
  have HEACH := Lib.hid (fun (W : World) (hW : Fr (SplS g 3) w W) (a : Option Addr) (c : Nat) (h1 : At W a (ls.map sv)) (h2 : ∀ x off, a = some ⟨x, off, none⟩ → x ≠ g) =>
    each_any hL a c ls s.t W (hbase.fr hW (fun o ho e => by have := e.2.1; omega)) (hL.fr hown hW (fun o ho e => by have := e.2.2; omega)) ((hW.cell g 69 hlt (fun e => by have := e.2.2; omega)).trans c69) h1 h2 (by omega) hk64 hout)
  have H70 := Lib.hid (fun (W : World) (hW : Fr (fun b o => SplS g 3 b o ∨ LineS g b o) w W) => (show W.cell? ⟨g, 69, none⟩ = some (evC kL g) ∧ W.cell? ⟨g, 70, none⟩ = some .nilFunc from
    ⟨(hW.cell g 69 hlt (fun e => by rcases e with e | e; (have := e.2.2; omega); (have := e.2; omega))).trans c69, (hW.cell g 70 hlt (fun e => by rcases e with e | e; (have := e.2.2; omega); (have := e.2; omega))).trans c70⟩))
  have HT := Lib.hid ht; clear ht
  have HC := Lib.hid hcut; clear hcut
  have HL := Lib.hid hL; clear hL
  clear hspl h hbase c69 c70 hown hk64 hout ha
  generalize eachs f s.t ls = r at *
  obtain ⟨t1, out, ov⟩ := r
  dsimp only at *
  have HKF := Lib.hid hkf; clear hkf
  have FIN := Lib.hid (fun (w1 w2 : World) (a2 : Option Addr) (ps2 : List Piece) (c2 : Nat) (hs1 : SplAt w1 g 3 rest fl) (hf1 : Fr (SplS g 3) w w1) (hf2 : Fr (LineS g) w1 w2) =>
    (show SplAt w2 g 3 rest fl ∧ Fr (fun b o => SplS g 3 b o ∨ LineS g b o) w w2 ∧ Fr (fun b _ => b = g) w w2 from
      ⟨hs1.fr hf2 (fun i hi e => by have := e.2; omega), (hf1.mono (fun _ _ _ e => .inl e)).step hf2 (fun _ _ _ e => .inr e), (hf1.mono (fun _ _ _ e => e.1)).step hf2 (fun _ _ _ e => e.1)⟩))
  cases fl with
  | false =>
    cases ov <;> (
    go_enter Try.func94, Try.ntmps94
    go_wp2_with (first
    | (go_at_call 102; refine HT.out.mono ?_; rintro e w' ⟨rfl, rfl⟩)
    | (go_at_call 103; refine HC.out.mono ?_; rintro e1 w1 ⟨v1, rfl, hown1, hspl1, hfr1⟩; obtain ⟨a1, c1, hv1, hat1, hb1⟩ := at_of_own hown1; subst hv1; dsimp only at hspl1
       have HS1 := Lib.hid hspl1; have HF1 := Lib.hid hfr1; have HA1 := Lib.hid hat1; have HN1 := Lib.hid hb1; clear hspl1 hfr1 hat1 hb1 hown1)
    | (go_at_call 100; refine (HEACH.out _ HF1.out a1 c1 HA1.out (fun x off e => by have := HN1.out x off e; omega)).mono ?_; rintro e2 w2 ⟨a2, ps2, c2, rfl, hbo2, ho2, hB2, hT2, hfr2⟩; dsimp only at hbo2 hB2 hT2
       have HBO2 := Lib.hid hbo2; have HO2 := Lib.hid ho2; have HB2 := Lib.hid hB2; have HT2 := Lib.hid hT2; have HF2 := Lib.hid hfr2; clear hbo2 ho2 hB2 hT2 hfr2))
    go_ret2
    obtain ⟨f1, f2, f3⟩ := FIN.out w1 w2 a2 ps2 c2 HS1.out HF1.out HF2.out
    have hs := HF1.out.size
    exact ⟨a2, ps2, c2, rfl, HBO2.out, ⟨HO2.out.cells, fun x off e => by have := HO2.out.new x off e; omega, fun p hp => ⟨(HO2.out.bytes p hp).1, fun x off e => by have := (HO2.out.bytes p hp).2 x off e; omega⟩⟩,
      ⟨HB2.out, f1, (H70.out _ f2).1, (H70.out _ f2).2, HT2.out, (by intro e; first | rfl | cases e)⟩, f3⟩)
  | true =>
    have hrest := HKF.out rfl
    subst hrest
    cases ov with
    | true =>
      go_enter Try.func94, Try.ntmps94
      go_wp2_with (first
      | (go_at_call 102; refine HT.out.mono ?_; rintro e w' ⟨rfl, rfl⟩)
      | (go_at_call 103; refine HC.out.mono ?_; rintro e1 w1 ⟨v1, rfl, hown1, hspl1, hfr1⟩; obtain ⟨a1, c1, hv1, hat1, hb1⟩ := at_of_own hown1; subst hv1; dsimp only at hspl1
         have HS1 := Lib.hid hspl1; have HF1 := Lib.hid hfr1; have HA1 := Lib.hid hat1; have HN1 := Lib.hid hb1; clear hspl1 hfr1 hat1 hb1 hown1)
      | (go_at_call 100; refine (HEACH.out _ HF1.out a1 c1 HA1.out (fun x off e => by have := HN1.out x off e; omega)).mono ?_; rintro e2 w2 ⟨a2, ps2, c2, rfl, hbo2, ho2, hB2, hT2, hfr2⟩; dsimp only at hbo2 hB2 hT2
         have HBO2 := Lib.hid hbo2; have HO2 := Lib.hid ho2; have HB2 := Lib.hid hB2; have HT2 := Lib.hid hT2; have HF2 := Lib.hid hfr2; clear hbo2 ho2 hB2 hT2 hfr2)
      | (go_at_call 101; refine (over_b g false true _ HB2.out).mono ?_; rintro e3 w3 ⟨rfl, rfl⟩))
      go_ret2
      obtain ⟨f1, f2, f3⟩ := FIN.out w1 w2 a2 ps2 c2 HS1.out HF1.out HF2.out
      have hs := HF1.out.size
      exact ⟨a2, ps2, c2, rfl, HBO2.out, ⟨HO2.out.cells, fun x off e => by have := HO2.out.new x off e; omega, fun p hp => ⟨(HO2.out.bytes p hp).1, fun x off e => by have := (HO2.out.bytes p hp).2 x off e; omega⟩⟩,
        ⟨HB2.out, f1, (H70.out _ f2).1, (H70.out _ f2).2, HT2.out, fun e => by cases e⟩, f3⟩
    | false =>
      go_enter Try.func94, Try.ntmps94
      go_wp2_with (first
      | (go_at_call 102; refine HT.out.mono ?_; rintro e w' ⟨rfl, rfl⟩)
      | (go_at_call 103; refine HC.out.mono ?_; rintro e1 w1 ⟨v1, rfl, hown1, hspl1, hfr1⟩; obtain ⟨a1, c1, hv1, hat1, hb1⟩ := at_of_own hown1; subst hv1; dsimp only at hspl1
         have HS1 := Lib.hid hspl1; have HF1 := Lib.hid hfr1; have HA1 := Lib.hid hat1; have HN1 := Lib.hid hb1; clear hspl1 hfr1 hat1 hb1 hown1)
      | (go_at_call 100; refine (HEACH.out _ HF1.out a1 c1 HA1.out (fun x off e => by have := HN1.out x off e; omega)).mono ?_; rintro e2 w2 ⟨a2, ps2, c2, rfl, hbo2, ho2, hB2, hT2, hfr2⟩; dsimp only at hbo2 hB2 hT2
         have HBO2 := Lib.hid hbo2; have HO2 := Lib.hid ho2; have HB2 := Lib.hid hB2; have HT2 := Lib.hid hT2; have HF2 := Lib.hid hfr2; clear hbo2 ho2 hB2 hT2 hfr2)
      | (go_at_call 101; refine (over_b g false false _ HB2.out).mono ?_; rintro e3 w3 ⟨rfl, rfl⟩)
      | (go_at_call 31; refine (stop_b g false false _ HB2.out).mono ?_; rintro e4 w4 ⟨rfl, rfl⟩))
      go_ret2
      obtain ⟨f1, f2, f3⟩ := FIN.out w1 w2 a2 ps2 c2 HS1.out HF1.out HF2.out
      have hs := HF1.out.size
      have st : Fr (fun b o => b = g ∧ o = 2) w2 (w2.setCell ⟨g, 2, none⟩ (.bool true)) := (Fr.refl _ _).setCell (fun _ => ⟨rfl, rfl⟩) _
      have hgl2 : g < w2.heap.size := HB2.out.lt
      refine ⟨a2, ps2, c2, rfl, HBO2.out, ⟨HO2.out.cells.fr st (fun x off e hx i _ e2 => by have := HO2.out.new x off e; omega), fun x off e => by have := HO2.out.new x off e; omega, fun p hp => ⟨(HO2.out.bytes p hp).1.fr st (fun x off e hx i _ e2 => by have := (HO2.out.bytes p hp).2 x off e; omega), fun x off e => by have := (HO2.out.bytes p hp).2 x off e; omega⟩⟩,
        ⟨?_, f1.fr st (fun i hi e => by omega), (H70.out _ (f2.step st (fun b o _ e => .inr ⟨e.1, .inl e.2⟩))).1, (H70.out _ (f2.step st (fun b o _ e => .inr ⟨e.1, .inl e.2⟩))).2, HL.out.fr HT2.out st (fun o ho e => by omega), fun e => by cases e⟩, f3.step st (fun _ _ _ e => e.1)⟩
      have b := HB2.out
      exact ⟨(st.cell g 0 hgl2 (fun e => by omega)).trans b.c0, (st.cell g 1 hgl2 (fun e => by omega)).trans b.c1, World.cell?_setCell_same _ _ _ b.c2, (by rw [World.frozen?_setCell]; exact b.z1), (by rw [World.frozen?_setCell]; exact b.z2)⟩
theorem eachs_one {τ : Type} (f : Each τ) (t : τ) (l : List UInt8) : eachs f t [l] = f t l := by
  rw [eachs]
  cases h : (f t l).2.2
  · rw [if_neg (by simp)]; simp only [eachs, List.append_nil]; rw [← h]
  · rw [if_pos rfl, ← h]
set_option maxHeartbeats 4000000 in
set_option maxRecDepth 100000 in
theorem end_l {τ : Type} {f : Each τ} {T : World → τ → Prop} {g kL : Nat} (hL : LineOk f T g kL false) (hE : EachOk f) (w : World) (s : LS τ) (h : LRep T g kL w s) (hov : s.over = false) :
    Calls Try.prog 93 #[.pointer (some ⟨g, 0, none⟩), .int .i64 0] w (LAns T g kL (finL f s) w) := by
  have hnf : ∀ w : World, (binOp .neq 81 .nilFunc .nilFunc).run Try.prog w = .ok (.bool false) w := fun _ => by kernel_rfl
  have hlt := h.base.lt
  have ht := ends_b g false s.over 0 w h.base
  rw [hov, show endsB false false 0 = 0 from rfl] at ht
  have hrest := rest_calls g 3 s.cs s.failed w h.spl
  have h64 := h.spl.len
  have hbase := h.base
  rw [hov] at hbase
  have c69 := h.each
  have c70 := h.last
  have hown := h.own
  have hfull := hE.full s.t s.cs
  have hw := hE.weight s.t s.cs
  have HT := Lib.hid ht; clear ht
  obtain ⟨cs, failed, over, t⟩ := s
  dsimp only at *
  subst hov
  have HEACH := Lib.hid (fun (W : World) (hW : Fr (SplS g 3) w W) (a : Option Addr) (c : Nat) (h1 : At W a [sv cs]) (h2 : ∀ x off, a = some ⟨x, off, none⟩ → x ≠ g) =>
    each_any hL a c [cs] t W (hbase.fr hW (fun o ho e => by have := e.2.1; omega)) (hL.fr hown hW (fun o ho e => by have := e.2.2; omega)) ((hW.cell g 69 hlt (fun e => by have := e.2.2; omega)).trans c69) h1 h2 (by simp) (by simpa using h64)
      (by rw [eachs_one]; have := outOk_len _ hfull; omega))
  rw [eachs_one] at HEACH
  have H70 := Lib.hid (fun (W : World) (hW : Fr (fun b o => SplS g 3 b o ∨ LineS g b o) w W) => (show W.cell? ⟨g, 69, none⟩ = some (evC kL g) ∧ W.cell? ⟨g, 70, none⟩ = some .nilFunc from
    ⟨(hW.cell g 69 hlt (fun e => by rcases e with e | e; (have := e.2.2; omega); (have := e.2; omega))).trans c69, (hW.cell g 70 hlt (fun e => by rcases e with e | e; (have := e.2.2; omega); (have := e.2; omega))).trans c70⟩))
  have HBF := Lib.hid (fun (W : World) (hW : Fr (SplS g 3) w W) => hbase.fr hW (fun o ho e => by have := e.2.1; omega))
  have HOWN := Lib.hid (fun (W : World) (hW : Fr (SplS g 3) w W) => hL.fr hown hW (fun o ho e => by have := e.2.2; omega))
  have HL := Lib.hid hL; clear hL
  have HR := Lib.hid hrest; clear hrest
  clear h hbase c69 c70 hown hfull hw
  have STOP := Lib.hid (fun (W : World) (ov : Bool) (hb : BaseAt W g false ov) => (show BaseAt (W.setCell ⟨g, 2, none⟩ (.bool true)) g false true from by
    have hgl2 : g < W.heap.size := hb.lt
    have st : Fr (fun b o => b = g ∧ o = 2) W (W.setCell ⟨g, 2, none⟩ (.bool true)) := (Fr.refl _ _).setCell (fun _ => ⟨rfl, rfl⟩) _
    exact ⟨(st.cell g 0 hgl2 (fun e => by omega)).trans hb.c0, (st.cell g 1 hgl2 (fun e => by omega)).trans hb.c1, World.cell?_setCell_same _ _ _ hb.c2, (by rw [World.frozen?_setCell]; exact hb.z1), (by rw [World.frozen?_setCell]; exact hb.z2)⟩))
  by_cases hcs : cs = []
  · subst hcs
    have e0 : finL f ⟨[], failed, false, t⟩ = (⟨[], failed, true, t⟩, [], 0) := by simp [finL]
    rw [e0]; clear e0
    go_enter Try.func93, Try.ntmps93
    go_wp2_with (first
      | (go_at_call 98; refine HT.out.mono ?_; rintro e w' ⟨rfl, rfl⟩)
      | (go_at_call 99; refine HR.out.mono ?_; rintro e1 w1 ⟨rfl, hs1, hf1⟩; have HS1 := Lib.hid hs1; have HF1 := Lib.hid hf1
         have c70 := (H70.out _ (hf1.mono (fun _ _ _ e => .inl e))).2; clear hs1 hf1)
      | (go_at_call 101; refine (over_b g false false _ (HBF.out _ HF1.out)).mono ?_; rintro e3 w3 ⟨rfl, rfl⟩)
      | (go_at_call 31; refine (stop_b g false false _ (HBF.out _ HF1.out)).mono ?_; rintro e4 w4 ⟨rfl, rfl⟩))
    go_ret2
    have st : Fr (fun b o => b = g ∧ o = 2) w1 (w1.setCell ⟨g, 2, none⟩ (.bool true)) := (Fr.refl _ _).setCell (fun _ => ⟨rfl, rfl⟩) _
    have fw : Fr (fun b o => SplS g 3 b o ∨ LineS g b o) w (w1.setCell ⟨g, 2, none⟩ (.bool true)) := (HF1.out.mono (fun _ _ _ e => .inl e)).step st (fun _ _ _ e => .inr ⟨e.1, .inl e.2⟩)
    exact ⟨none, [], 0, rfl, rfl, outs_nil _ _, ⟨STOP.out _ _ (HBF.out _ HF1.out), HS1.out.fr st (fun i hi e => by omega), (H70.out _ fw).1, (H70.out _ fw).2, HL.out.fr (HOWN.out _ HF1.out) st (fun o ho e => by omega), fun e => by cases e⟩,
      (HF1.out.mono (fun _ _ _ e => e.1)).step st (fun _ _ _ e => e.1)⟩
  · have e0 : finL f ⟨cs, failed, false, t⟩ = (⟨[], failed, true, (f t cs).1⟩, (f t cs).2.1, 0) := by simp [finL, hcs]
    rw [e0]; clear e0
    have hem : (!cs.isEmpty) = true := by simpa using hcs
    have hr := HR.out
    rw [hem] at hr
    have HR := Lib.hid hr; clear hr hem hcs
    generalize f t cs = r at *
    obtain ⟨t1, out, ov⟩ := r
    dsimp only at *
    cases ov <;> (
    go_enter Try.func93, Try.ntmps93
    go_wp2_with (first
      | (go_at_call 98; refine HT.out.mono ?_; rintro e w' ⟨rfl, rfl⟩)
      | (go_at_call 99; refine HR.out.mono ?_; rintro e1 w1 ⟨rfl, hs1, hf1⟩; have HS1 := Lib.hid hs1; have HF1 := Lib.hid hf1; clear hs1 hf1)
      | (go_at_call 100; refine (HEACH.out _ (HF1.out.alloc _) (some ⟨w1.heap.size, 0, none⟩) 1 (fun _ => ⟨w1.heap.size, 0, rfl, row_at w1 #[sv cs] _ rfl _ rfl 9 (0, 0)⟩) (fun x off e => by injection e with e; injection e with e; have := HF1.out.size; omega)).mono ?_; rintro e2 w2 ⟨a2, ps2, c2, rfl, hbo2, ho2, hB2, hT2, hfr2⟩; dsimp only at hbo2 hB2 hT2
         have hfa : Fr (LineS g) w1 w2 := (((Fr.refl _ w1).alloc _).trans hfr2)
         have HBO2 := Lib.hid hbo2; have HO2 := Lib.hid ho2; have HB2 := Lib.hid hB2; have HT2 := Lib.hid hT2; have HF2 := Lib.hid hfa
         have c70 := (H70.out _ ((HF1.out.mono (fun _ _ _ e => .inl e)).step HF2.out (fun _ _ _ e => .inr e))).2; clear hbo2 ho2 hB2 hT2 hfr2 hfa)
      | (go_at_call 101; refine (over_b g false _ _ HB2.out).mono ?_; rintro e3 w3 ⟨rfl, rfl⟩)
      | (go_at_call 31; refine (stop_b g false _ _ HB2.out).mono ?_; rintro e4 w4 ⟨rfl, rfl⟩))
    go_ret2
    have hs := HF1.out.size
    have hal : w1.heap.size ≤ (w1.alloc (.cells #[sv cs] 9)).heap.size := by simp
    have st : Fr (fun b o => b = g ∧ o = 2) w2 (w2.setCell ⟨g, 2, none⟩ (.bool true)) := (Fr.refl _ _).setCell (fun _ => ⟨rfl, rfl⟩) _
    have f2 : Fr (fun b o => SplS g 3 b o ∨ LineS g b o) w (w2.setCell ⟨g, 2, none⟩ (.bool true)) := ((HF1.out.mono (fun _ _ _ e => .inl e)).step HF2.out (fun _ _ _ e => .inr e)).step st (fun _ _ _ e => .inr ⟨e.1, .inl e.2⟩)
    exact ⟨a2, ps2, c2, rfl, HBO2.out, ⟨HO2.out.cells.fr st (fun x off e hx i _ e2 => by have := HO2.out.new x off e; omega), fun x off e => by have := HO2.out.new x off e; omega, fun p hp => ⟨(HO2.out.bytes p hp).1.fr st (fun x off e hx i _ e2 => by have := (HO2.out.bytes p hp).2 x off e; omega), fun x off e => by have := (HO2.out.bytes p hp).2 x off e; omega⟩⟩,
      ⟨STOP.out _ _ HB2.out, (HS1.out.fr HF2.out (fun i hi e => by have := e.2; omega)).fr st (fun i hi e => by omega), (H70.out _ f2).1, (H70.out _ f2).2, HL.out.fr HT2.out st (fun o ho e => by omega), fun e => by cases e⟩,
      ((HF1.out.mono (fun _ _ _ e => e.1)).step HF2.out (fun _ _ _ e => e.1)).step st (fun _ _ _ e => e.1)⟩)
end Go.Proofs.Ytppgojcfgdooiaa

/- A machine of lines is a machine. -/
namespace Go.Proofs.Ytppgojcfgdooiaa
open Go.RowKit

/-- The methods of a machine of lines at g, of type U. -/
def linesMeth (U g : Nat) : Meth :=
  ⟨U, .pointer (some ⟨g, 0, none⟩), 97, .pointer (some ⟨g, 0, none⟩), 95, .pointer (some ⟨g, 0, none⟩), 94, .pointer (some ⟨g, 0, none⟩), 93, .pointer (some ⟨g, 0, none⟩), 96, .pointer (some ⟨g, 0, none⟩)⟩
theorem need_modL {τ : Type} (f : Each τ) (s : LS τ) : (modL f).need s = needB false s.over := by
  unfold modL needB; dsimp only; cases s.over <;> simp
theorem lines_mach {τ : Type} {f : Each τ} {T : World → τ → Prop} {g kL U : Nat} (hL : LineOk f T g kL false) (hE : EachOk f) (hm : (linesMeth U g).Ok) : Mach (modL f) (linesMeth U g) (LR T g kL) where
  ok := hm
  fr h k hS := h.fr hL k hS
  lt h b hb := by have := (h.1 b).1 hb; subst this; exact h.2.base.lt
  need3 {w F s} h := by rw [need_modL]; unfold needB; cases s.over <;> simp
  need {w F s} h := by
    refine (need_b g false s.over w h.2.base).mono ?_
    rintro e w' ⟨rfl, rfl⟩
    exact ⟨by rw [need_modL], h, Fr.refl _ _⟩
  held {w F s} h := by
    refine (held_l w s h.2).mono ?_
    rintro e w' ⟨rfl, rfl⟩
    exact ⟨rfl, h, Fr.refl _ _⟩
  heldB {w F s} h := by have := h.2.spl.len; show 0 ≤ ((s.cs.length : Nat) : Int) ∧ ((s.cs.length : Nat) : Int) ≤ 1000000; omega
  feed {w F s} h hn a c cap ha hF h1 h32 := by
    have hov : s.over = false := by
      rw [need_modL] at hn; unfold needB at hn
      cases ho : s.over
      · rfl
      · rw [ho] at hn; simp at hn
    obtain ⟨x, off, rfl, hr⟩ := ha (by simp; omega)
    refine (feed_l hL hE w s h.2 hov x off c cap hr.bts (fun e => hF x off rfl ((h.1 x).2 e)) h1 h32).mono ?_
    rintro e w' ⟨a', ps, c', rfl, hb, ho, hr', hf⟩
    exact ⟨a', ps, c', F, rfl, hb, feedL_ok f hE.full hE.weight s c h.2.spl.len h32, ho, ⟨h.1, hr'⟩, hf.mono (fun b _ _ e => (h.1 b).2 e), fun b hb => .inl hb⟩
  fin {w F s} h hn := by
    have hov : s.over = false := by
      rw [need_modL] at hn; unfold needB at hn
      cases ho : s.over
      · rfl
      · rw [ho] at hn; simp at hn
    refine (end_l hL hE w s h.2 hov).mono ?_
    rintro e w' ⟨a', ps, c', rfl, hb, ho, hr', hf⟩
    exact ⟨a', ps, c', F, rfl, hb, finL_ok f hE.full hE.weight s h.2.spl.len, ho, ⟨h.1, hr'⟩, hf.mono (fun b _ _ e => (h.1 b).2 e), fun b hb => .inl hb⟩
  more {w F s} h hn := by
    rw [need_modL] at hn; unfold needB at hn
    cases ho : s.over <;> rw [ho] at hn <;> simp at hn
theorem lines_refuses {τ : Type} {f : Each τ} {T : World → τ → Prop} {g kL U : Nat} : Refuses (modL f) (linesMeth U g) (LR T g kL) where
  feed {w F s} h p a c cap ha hc hp := by
    have hr : takesB false s.over p c.length = notDue ((modL f).need s) := by
      rw [need_modL] at hp ⊢
      unfold takesB endsB notDue
      unfold needB at hp ⊢
      cases ho : s.over
      · rw [ho] at hp
        by_cases hp0 : p = 0
        · subst hp0
          have h2 : c.length = 0 ∨ 32 < c.length := by
            rcases hp with h | h
            · exact absurd (by simp) h
            · exact h
          rw [if_neg (by simp), if_pos h2]
          simp
        · simp [hp0]
      · simp
    have h0 : notDue ((modL f).need s) ≠ 0 := by unfold notDue; split <;> simp
    refine (feed_no w s h.2 p a c.length cap _ hr h0).mono ?_
    rintro e w' ⟨rfl, rfl⟩
    exact ⟨none, 0, rfl, h, Fr.refl _ _⟩
  fin {w F s} h p hp := by
    have hr : endsB false s.over p = notDue ((modL f).need s) := by
      rw [need_modL] at hp ⊢
      unfold endsB notDue
      unfold needB at hp ⊢
      cases ho : s.over
      · rw [ho] at hp; simp at hp ⊢; exact hp
      · simp
    have h0 : notDue ((modL f).need s) ≠ 0 := by unfold notDue; split <;> simp
    refine (end_no w s h.2 p _ hr h0).mono ?_
    rintro e w' ⟨rfl, rfl⟩
    exact ⟨none, 0, rfl, h, Fr.refl _ _⟩
  more {w F s} h hn := by
    refine (more_b g false s.over w h.2.base).mono ?_
    rintro e w' ⟨rfl, rfl⟩
    refine ⟨none, 0, ?_, h, Fr.refl _ _⟩
    rw [need_modL]; unfold needB notDue asksB; cases s.over <;> simp
end Go.Proofs.Ytppgojcfgdooiaa
