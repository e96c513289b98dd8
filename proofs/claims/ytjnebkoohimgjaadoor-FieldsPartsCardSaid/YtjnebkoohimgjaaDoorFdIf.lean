/- Fields, in the words that all machines' laws ask for; the chapter's first example. -/
import Derived.Test.YtjnebkoohimgjaaDoorFdC
import Derived.Test.YtjnebkoohimgjaaDoorFdM
import Derived.Test.YtjnebkoohimgjaaDoorSame
import Derived.Test.YtjnebkoohimgjaaDoorDrvC
namespace Go.Proofs.YtjnebkoohimgjaaDoor
open Go.RowKit

abbrev SM : Type := LS Unit
def byM (A : List UInt8) : UInt8 := A.headD 0
def modM (n : Int) (A _B : List UInt8) : Mod SM := modL (fdF (byM A) n.toNat)
def methM (g : Nat) : Meth := linesMeth 72 g 1
def RM (g : Nat) (n : Int) (A _B : List UInt8) : World → (Nat → Prop) → SM → Prop := fun w F s => 1 ≤ g ∧ LR (FdT g (byM A) n.toNat) g 27 w F s
def startM (_n : Int) (_A _B : List UInt8) : SM := ⟨[], false, false, ()⟩
theorem fieldsBounds (n : Int) (A B : List UInt8) (h : chkR 7 n A B = 0) : (1 ≤ n ∧ n < 65536) ∧ A = [byM A] ∧ bndR 7 n A B = 64 := by
  obtain ⟨hk, hrow⟩ := chkR_kind 7 n A B h
  have hb : bndR 7 n A B = holdsR 7 n := by unfold bndR; rw [if_neg (by simp [h])]
  rw [hb]
  unfold rowR at hrow; simp at hrow
  obtain ⟨⟨_, r1⟩, r2⟩ := hrow
  unfold withinB at r2; simp at r2
  have hA : A = [byM A] := by
    unfold oneB at r1; simp at r1
    match A, r1 with
    | [x], _ => rfl
  refine ⟨by omega, hA, ?_⟩
  unfold holdsR
  simp
theorem methM_lt (g : Nat) {b : Nat} (h : b < (methM g).B) : b < 1 := h
theorem methM_le (g : Nat) {x : Nat} (h : 1 ≤ x) : (methM g).B ≤ x := h
theorem methM_ok (g : Nat) : (methM g).Ok := fd_meth g
theorem machM (g : Nat) (n : Int) (A B : List UInt8) (h : chkR 7 n A B = 0) : Mach (modM n A B) (methM g) (RM g n A B) := by
  obtain ⟨hn, _, _⟩ := fieldsBounds n A B h
  by_cases hg : 1 ≤ g
  · have e : RM g n A B = LR (FdT g (byM A) n.toNat) g 27 := by
      funext w F s; unfold RM; exact propext ⟨fun h => h.2, fun h => ⟨hg, h⟩⟩
    rw [e]
    exact lines_mach (fd_ok g (byM A) _ (by omega) hg) (fd_each (byM A) _) (fd_meth g)
  · exact mach_none (fd_meth g) (fun w F s h => hg h.1)
theorem refM (g : Nat) (n : Int) (A B : List UInt8) (_h : chkR 7 n A B = 0) : Refuses (modM n A B) (methM g) (RM g n A B) := by
  by_cases hg : 1 ≤ g
  · have e : RM g n A B = LR (FdT g (byM A) n.toNat) g 27 := by
      funext w F s; unfold RM; exact propext ⟨fun h => h.2, fun h => ⟨hg, h⟩⟩
    rw [e]
    exact lines_refuses
  · exact refuses_none (fun w F s h => hg h.1)
def saysM (n : Int) (A _B : List UInt8) (b : List UInt8) (ended : Bool) : List UInt8 × Int × Int := (bmL (fdF (byM A) n.toNat)).says ([], ()) b ended
/-- What is found. -/
structure FoundD (n : Int) (A B : List UInt8) (r : List UInt8 × Int × Int) (d : Drv SM) : Prop where
  out : d.out = r.1
  need : d.need = r.2.1
  err : d.err = r.2.2
  held0 : 0 ≤ d.held
  held : d.held ≤ bndR 7 n A B
theorem foundM (n : Int) (A B : List UInt8) (h : chkR 7 n A B = 0) (b : List UInt8) (ended : Bool) (cuts : List Int) (hb : b.length ≤ 90000) : FoundD n A B (saysM n A B b ended) (drive (modM n A B) b ended cuts (startM n A B)) := by
  obtain ⟨h0, h1, h2⟩ := fieldsBounds n A B h
  have hfound : Found (modM n A B) RepL 64 b (saysM n A B b ended) (drive (modM n A B) b ended cuts (startM n A B)) :=
    drive_live (stands_lines _) _ ([], ()) ⟨rfl, rfl, rfl, rfl, by simp [startM]⟩ (by omega) hb
  exact ⟨hfound.out, hfound.need, hfound.err, hfound.held0, by rw [h2]; exact hfound.held⟩
def NewM (w : World) (n : Int) (A B : List UInt8) (e : Ending) (w' : World) : Prop :=
  ∃ g F, e = .returned (.tuple #[.iface 72 (.pointer (some ⟨g, 0, none⟩)), .int .i64 0]) ∧ (∀ y, F y → w.heap.size ≤ y) ∧ RM g n A B w' F (startM n A B) ∧ Fr No w w'
theorem newM_no (k n : Int) (aA aB : Option Addr) (A B : List UInt8) (cA cB : Nat) (w : World) (hA : At w aA (A.map bv)) (hl : A.length ≤ 100000000) (hl2 : B.length ≤ 100000000) (h : fchk 7 k n A B ≠ 0) :
    Calls Tryd.prog 13 #[.agg #[.int .i64 k, .int .i64 n, .slice aA A.length cA, .slice aB B.length cB]] w (NoNew w (fchk 7 k n A B)) := fd_no k n aA aB A B cA cB w hA hl hl2 h
theorem fchk_fields (n : Int) (A B : List UInt8) (h : fchk 7 7 n A B = 0) : chkM 7 n A B = 0 := by
  unfold fchk at h
  by_cases hc : chkM 7 n A B = 0
  · exact hc
  · rw [if_pos hc] at h; exact absurd h hc
theorem newM_yes (n : Int) (aA aB : Option Addr) (A B : List UInt8) (cA cB : Nat) (w : World) (hA : At w aA (A.map bv)) (_hB : At w aB (B.map bv)) (_hl : A.length ≤ 100000000) (hl2 : B.length ≤ 100000000) (h : fchk 7 7 n A B = 0) (hG : GM w) :
    Calls Tryd.prog 13 #[.agg #[.int .i64 7, .int .i64 n, .slice aA A.length cA, .slice aB B.length cB]] w (NewM w n A B) := by
  have hb : 1 ≤ n ∧ n < 65536 ∧ A = [byM A] := by
    have hc := fchk_fields n A B h
    have hn : n ≤ 9223372036854775807 := by
      unfold chkM ofM at hc
      by_cases h1 : 65535 < n
      · rw [if_neg (by decide), if_pos (.inr (.inl (show (rl 7).most < n from h1)))] at hc
        simp at hc
      · omega
    rw [(agree 7 n A B hn).1] at hc
    obtain ⟨h1, h2, _⟩ := fieldsBounds n A B hc
    exact ⟨h1.1, h1.2, h2⟩
  obtain ⟨h1, h2, hA1⟩ := hb
  obtain ⟨m, rfl⟩ : ∃ m : Nat, n = m := ⟨n.toNat, by omega⟩
  rw [hA1] at hA h ⊢
  generalize byM A = c at *
  refine (fd_yes m aA aB c B cA cB w hA hl2 h hG).mono ?_
  rintro e w' ⟨g, rfl, hg, hr, hf⟩
  exact ⟨g, fun y => y = g, rfl, fun y hy => by omega, ⟨by have := hG.lt; omega, hr⟩, hf⟩
/-- The document's answer: the bytes, whether that is all, the error. -/
def docM (n : Int) (A _B : List UInt8) (b : List UInt8) (ended : Bool) (e : Int × Int × Int) : List UInt8 × Bool × Int × Int × Int :=
  (fdAll (byM A) n.toNat (rlines b ended), rdAll b ended, if rdAll b ended then (0, 0, 0) else rdErr b ended e)
theorem meansM_any (n : Int) (aA aB : Option Addr) (A B : List UInt8) (cA cB : Nat) (h : chkR 7 n A B = 0) (ig ioff ci : Nat) (s : Strm) (w : World) (hA : At w aA (A.map bv)) (_hB : At w aB (B.map bv))
    (hrow : Row w ig ioff (strmC s.a s.b s.c s.ended s.ec s.es s.ei)) (hs : At w s.a (s.b.map bv)) (hl : s.b.length ≤ 100000) (hc : s.b.length ≤ s.c) :
    Calls Tryd.prog 23 #[.agg #[.int .i64 7, .int .i64 n, .slice aA A.length cA, .slice aB B.length cB], .slice (some ⟨ig, ioff, none⟩) 1 ci] w
      (OnePost w (docM n A B s.b s.ended (s.ec, s.es, s.ei)).1 (docM n A B s.b s.ended (s.ec, s.es, s.ei)).2.1 (docM n A B s.b s.ended (s.ec, s.es, s.ei)).2.2) := by
  obtain ⟨h0, hA1, h2⟩ := fieldsBounds n A B h
  obtain ⟨m, rfl⟩ : ∃ m : Nat, n = m := ⟨n.toNat, by omega⟩
  unfold docM
  rw [Int.toNat_natCast]
  generalize byM A = c at *
  subst hA1
  exact fields_means 7 m aA aB c B cA cB ig ioff ci s w (by omega) hA hrow hs hl hc
theorem sameM (n : Int) (A B : List UInt8) (_h : chkR 7 n A B = 0) (b : List UInt8) (ended : Bool) (ec es ei held taken : Int) (ig ioff ci g off c : Nat) (sa : Option Addr) (sc : Nat) (ia : Option Addr) (ic : Nat) (w : World) (hin : Row w ig ioff (strmC ia b ic ended ec es ei))
    (hw : Row w g off (strmC sa (docM n A B b ended (ec, es, ei)).1 sc (docM n A B b ended (ec, es, ei)).2.1 (docM n A B b ended (ec, es, ei)).2.2.1 (docM n A B b ended (ec, es, ei)).2.2.2.1 (docM n A B b ended (ec, es, ei)).2.2.2.2))
    (hs : At w sa ((docM n A B b ended (ec, es, ei)).1.map bv)) :
    Calls Tryd.prog 22 #[.agg (gotC (saysM n A B b ended).1 (saysM n A B b ended).2.1 (saysM n A B b ended).2.2 held taken), .slice (some ⟨ig, ioff, none⟩) 1 ci, .slice (some ⟨g, off, none⟩) 1 c] w (SamePost w) := by
  unfold saysM docM fdAll at *
  rw [on_says (fdF (byM A) n.toNat) () (fdG (byM A) n.toNat) (fun _ => rfl)]
  unfold rdAll rdErr at *
  cases hr : rlong b with
  | true =>
    simp only [hr] at *
    exact same_failed _ held taken ig ioff ci g off c sa sc (-1) 0 w hw hs
  | false =>
    simp only [hr] at *
    cases ended with
    | true => exact same_ended _ held taken ig ioff ci g off c sa sc 0 0 0 w hw hs
    | false => exact same_waits _ held taken ig ioff ci g off c sa sc ec es ei w hw hs ia b ic hin
/-- What Drive finds. -/
def FoundM (R : World → (Nat → Prop) → SM → Prop) (n : Int) (A B : List UInt8) (F : Nat → Prop) (r : List UInt8 × Int × Int) (w : World) (e : Ending) (w' : World) : Prop :=
  ∃ (held : Int) (taken : Nat) (s' : SM) (F' : Nat → Prop), e = .returned (.agg (gotC r.1 r.2.1 r.2.2 held taken)) ∧ 0 ≤ held ∧ held ≤ bndR 7 n A B ∧ R w' F' s' ∧ Fr (InF F) w w' ∧ ∀ b, F' b → F b ∨ w.heap.size ≤ b
theorem drive_gen {m : Meth} {R : World → (Nat → Prop) → SM → Prop} {n : Int} {A B : List UInt8} (hM : Mach (modM n A B) m R) (h : chkR 7 n A B = 0)
    (ig ioff ic : Nat) (ba : Option Addr) (bc : Nat) (b : List UInt8) (ended : Bool) (ec es ei : Int) (ca : Option Addr) (cc : Nat) (cuts : List Int) (F : Nat → Prop) (w : World)
    (hR : R w F (startM n A B)) (hi : Row w ig ioff (strmC ba b bc ended ec es ei)) (hiF : ¬ F ig) (hb : At w ba (b.map bv)) (hbF : 0 < b.length → ∀ x off, ba = some ⟨x, off, none⟩ → ¬ F x) (hbl : b.length ≤ 90000) (hbc : b.length ≤ bc)
    (hc : At w ca (cuts.map iv)) (hcF : 0 < cuts.length → ∀ x off, ca = some ⟨x, off, none⟩ → ¬ F x) (hcl : cuts.length ≤ 100000) :
    Calls Tryd.prog 14 #[.iface m.U m.x, .slice (some ⟨ig, ioff, none⟩) 1 ic, .slice ca cuts.length cc] w (FoundM R n A B F (saysM n A B b ended) w) := by
  refine (drive_any hM ig ioff ic ba bc b ended ec es ei ca cc cuts (startM n A B) F w hR hi hiF hb hbF hbl hbc hc hcF hcl).mono ?_
  rintro e w' ⟨F', rfl, hr, hf, hF⟩
  have hfound := foundM n A B h b ended cuts hbl
  generalize drive (modM n A B) b ended cuts (startM n A B) = d at *
  refine ⟨d.held, d.taken, d.m, F', ?_, hfound.held0, hfound.held, hr, hf, hF⟩
  rw [hfound.out, hfound.need, hfound.err]
theorem drive_M (g : Nat) (n : Int) (A B : List UInt8) (h : chkR 7 n A B = 0)
    (ig ioff ic : Nat) (ba : Option Addr) (bc : Nat) (b : List UInt8) (ended : Bool) (ec es ei : Int) (ca : Option Addr) (cc : Nat) (cuts : List Int) (F : Nat → Prop) (w : World)
    (hR : RM g n A B w F (startM n A B)) (hi : Row w ig ioff (strmC ba b bc ended ec es ei)) (hiF : ¬ F ig) (hb : At w ba (b.map bv)) (hbF : 0 < b.length → ∀ x off, ba = some ⟨x, off, none⟩ → ¬ F x) (hbl : b.length ≤ 90000) (hbc : b.length ≤ bc)
    (hc : At w ca (cuts.map iv)) (hcF : 0 < cuts.length → ∀ x off, ca = some ⟨x, off, none⟩ → ¬ F x) (hcl : cuts.length ≤ 100000) :
    Calls Tryd.prog 14 #[.iface 72 (.pointer (some ⟨g, 0, none⟩)), .slice (some ⟨ig, ioff, none⟩) 1 ic, .slice ca cuts.length cc] w (FoundM (RM g n A B) n A B F (saysM n A B b ended) w) :=
  drive_gen (machM g n A B h) h ig ioff ic ba bc b ended ec es ei ca cc cuts F w hR hi hiF hb hbF hbl hbc hc hcF hcl
def TruePost (w : World) (e : Ending) (w' : World) : Prop := e = .returned (.bool true) ∧ Fr No w w'
set_option maxHeartbeats 4000000 in
set_option maxRecDepth 100000 in
theorem awake_any (w : World) (hG : GM w) : Calls Tryd.prog 11 #[] w (TruePost w) := by
  have hcv1 := fun (W : World) (g : Nat) (hg : g = W.heap.size) =>
    conv_const (P := Tryd.prog) 22 5 Tryd.underlying22 Tryd.underlying5 W #[.int .u8 58] 1 1 g hg
  have hcv9 := fun (W : World) (g : Nat) (hg : g = W.heap.size) =>
    conv_const (P := Tryd.prog) 22 5 Tryd.underlying22 Tryd.underlying5 W #[.int .u8 97, .int .u8 58, .int .u8 98, .int .u8 58, .int .u8 99, .int .u8 58, .int .u8 100, .int .u8 10, .int .u8 112, .int .u8 108, .int .u8 97, .int .u8 105, .int .u8 110] 13 13 g hg
  have h1 := hcv1 w _ rfl
  have hok : chkR 7 5 [58] [] = 0 := by decide
  have hnew := newM_yes 5 (some ⟨w.heap.size, 0, none⟩) none [58] [] 1 0 (w.alloc (.cells #[.int .u8 58] 5 (1, 2)))
    (fun _ => ⟨w.heap.size, 0, rfl, row_at w #[.int .u8 58] _ rfl w.heap.size rfl 5 (1, 2)⟩) (At.nil _ _) (by decide) (by decide) (by decide) (hG.no ((Fr.refl No _).alloc _))
  have HNEW := Lib.hid hnew; clear hnew hcv1 hG
  go_enter Tryd.func11, Tryd.ntmps11
  go_wp2_with (first
    | (go_at_call 13; refine HNEW.out.mono ?_; rintro e1 w1 ⟨g, F, rfl, hg, hr, hf1⟩
       have HR := Lib.hid hr; have HF1 := Lib.hid (((Fr.refl No w).alloc (.cells #[.int .u8 58] 5 (1, 2))).trans hf1); have hcv1 := hcv9 w1 _ rfl; clear hr hf1))
  have hfd : saysM 5 [58] [] [97, 58, 98, 58, 99, 58, 100, 10, 112, 108, 97, 105, 110] true = ([97, 58, 99, 10, 112, 108, 97, 105, 110, 10], -1, 0) := by unfold saysM; kernel_rfl
  have HLT := Lib.hid ((machM g 5 [58] [] hok).lt HR.out)
  have hd := drive_M g 5 [58] [] hok (w1.heap.size + 1) 0 1 (some ⟨w1.heap.size, 0, none⟩) 13 [97, 58, 98, 58, 99, 58, 100, 10, 112, 108, 97, 105, 110] true 0 0 0 (some ⟨w1.heap.size + 1 + 1, 0, none⟩) 1 [2] F
    (((w1.alloc (.cells #[.int .u8 97, .int .u8 58, .int .u8 98, .int .u8 58, .int .u8 99, .int .u8 58, .int .u8 100, .int .u8 10, .int .u8 112, .int .u8 108, .int .u8 97, .int .u8 105, .int .u8 110] 5 (13, 14))).alloc (.cells #[.slice (some ⟨w1.heap.size, 0, none⟩) 13 13, .bool true, .int .i64 0, .int .i64 0, .int .i64 0] 37)).alloc (.cells #[.int .i64 2] 3))
    ((machM g 5 [58] [] hok).fr HR.out ((((Fr.refl No w1).alloc _).alloc _).alloc _) (fun _ _ _ x => x) (fun _ _ _ x => x))
    ((row_at _ #[.slice (some ⟨w1.heap.size, 0, none⟩) 13 13, .bool true, .int .i64 0, .int .i64 0, .int .i64 0] _ rfl (w1.heap.size + 1) (by simp) 37 (0, 0)).fr ((Fr.refl No _).alloc _) (fun _ _ x => x)) (fun e => by have := HLT.out _ e; omega)
    (fun _ => ⟨w1.heap.size, 0, rfl, (row_at w1 #[.int .u8 97, .int .u8 58, .int .u8 98, .int .u8 58, .int .u8 99, .int .u8 58, .int .u8 100, .int .u8 10, .int .u8 112, .int .u8 108, .int .u8 97, .int .u8 105, .int .u8 110] _ rfl w1.heap.size rfl 5 (13, 14)).fr (((Fr.refl No _).alloc _).alloc _) (fun _ _ x => x)⟩)
    (fun _ x off e h => by injection e with e; injection e with e; have := HLT.out _ h; omega) (by decide) (by decide)
    (fun _ => ⟨w1.heap.size + 1 + 1, 0, rfl, row_at _ #[.int .i64 2] _ rfl (w1.heap.size + 1 + 1) (by simp) 3 (0, 0)⟩) (fun _ x off e h => by injection e with e; injection e with e; have := HLT.out _ h; omega) (by decide)
  rw [hfd] at hd
  refine hd.mono ?_
  rintro e2 w2 ⟨held, taken, s', F', rfl, h0, h64, hr2, hf2, _⟩
  dsimp only [gotC]
  have HF2 := Lib.hid hf2; clear hf2 hr2 hd
  go_wp2
  go_ret
  have hs := HF1.out.size
  refine ⟨rfl, ((((HF1.out.alloc _).alloc _).alloc _).step HF2.out (fun b o hb e => by have h1 := hg _ e; simp at h1; omega)).alloc _⟩
end Go.Proofs.YtjnebkoohimgjaaDoor
