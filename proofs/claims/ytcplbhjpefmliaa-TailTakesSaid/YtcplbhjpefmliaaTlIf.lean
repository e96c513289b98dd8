/- Tail, in the words that all machines' laws ask for; the chapter's first example. -/
import Derived.Test.YtcplbhjpefmliaaTaE
import Derived.Test.YtcplbhjpefmliaaTaM
import Derived.Test.YtcplbhjpefmliaaSame
import Derived.Test.YtcplbhjpefmliaaDrvC
namespace Go.Proofs.Ytcplbhjpefmliaa
open Go.RowKit

abbrev SM : Type := TS
def modM (n : Int) (_A _B : List UInt8) : Mod SM := modT n.toNat
def methM (g : Nat) : Meth := taMeth g
def RM (g : Nat) (n : Int) (_A _B : List UInt8) : World → (Nat → Prop) → SM → Prop := TaR g n.toNat 59
def startM (_n : Int) (_A _B : List UInt8) : SM := ⟨[], false, false, false, []⟩
theorem tailBounds (n : Int) (A B : List UInt8) (h : chkR 4 n A B = 0) : 0 ≤ n ∧ n ≤ 31 ∧ bndR 4 n A B = 64 + 64 * n := by
  obtain ⟨hk, hrow⟩ := chkR_kind 4 n A B h
  have hh : ¬ 2048 < holdsR 4 n := fun hg => by
    unfold chkR at h
    rw [if_neg hk, if_neg (by rw [hrow]; simp), if_pos hg] at h
    cases h
  have hb : bndR 4 n A B = holdsR 4 n := by unfold bndR; rw [if_neg (by simp [h])]
  rw [hb]
  unfold rowR at hrow; simp at hrow
  unfold holdsR at hh ⊢
  by_cases h1 : 100 < n
  · rw [if_pos ⟨.inl rfl, h1⟩] at hh; exact absurd (by decide) hh
  · rw [if_neg (fun e => h1 e.2), if_neg (by decide), if_pos rfl] at hh
    rw [if_neg (fun e => h1 e.2), if_neg (by decide), if_pos rfl]
    exact ⟨by omega, by omega, rfl⟩
theorem methM_ok (g : Nat) : (methM g).Ok := ta_meth g
theorem machM (g : Nat) (n : Int) (A B : List UInt8) (h : chkR 4 n A B = 0) : Mach (modM n A B) (methM g) (RM g n A B) := by
  obtain ⟨h0, h1, _⟩ := tailBounds n A B h
  exact ta_mach g n.toNat (by omega)
theorem refM (g : Nat) (n : Int) (A B : List UInt8) (_h : chkR 4 n A B = 0) : Refuses (modM n A B) (methM g) (RM g n A B) := ta_refuses g n.toNat
def saysM (n : Int) (_A _B : List UInt8) (b : List UInt8) (ended : Bool) : List UInt8 × Int × Int := (bmT n.toNat).says ([], []) b ended
/-- What is found. -/
structure FoundD (n : Int) (A B : List UInt8) (r : List UInt8 × Int × Int) (d : Drv SM) : Prop where
  out : d.out = r.1
  need : d.need = r.2.1
  err : d.err = r.2.2
  held0 : 0 ≤ d.held
  held : d.held ≤ bndR 4 n A B
theorem foundM (n : Int) (A B : List UInt8) (h : chkR 4 n A B = 0) (b : List UInt8) (ended : Bool) (cuts : List Int) (hb : b.length ≤ 90000) : FoundD n A B (saysM n A B b ended) (drive (modM n A B) b ended cuts (startM n A B)) := by
  obtain ⟨h0, h1, h2⟩ := tailBounds n A B h
  have hfound : Found (modT n.toNat) (RepT n.toNat) (64 + 64 * (n.toNat : Int)) b ((bmT n.toNat).says ([], []) b ended) (drive (modT n.toNat) b ended cuts ⟨[], false, false, false, []⟩) :=
    drive_live (stands_tail n.toNat (by omega)) _ ([], []) ⟨rfl, rfl, rfl, rfl, rfl, by simp, by simp [OkT]⟩ (by omega) hb
  exact ⟨hfound.out, hfound.need, hfound.err, hfound.held0, by rw [h2]; have := hfound.held; unfold modM startM; omega⟩
def NewM (w : World) (n : Int) (A B : List UInt8) (e : Ending) (w' : World) : Prop :=
  ∃ g F, e = .returned (.tuple #[.iface 82 (.pointer (some ⟨g, 0, none⟩)), .int .i64 0]) ∧ (∀ y, F y → w.heap.size ≤ y) ∧ RM g n A B w' F (startM n A B) ∧ Fr No w w'
theorem newM_no (k n : Int) (aA aB : Option Addr) (A B : List UInt8) (cA cB : Nat) (w : World) (hA : At w aA (A.map bv)) (hl : A.length ≤ 100000000) (hl2 : B.length ≤ 100000000) (h : fchk 4 k n A B ≠ 0) :
    Calls Try.prog 28 #[.agg #[.int .i64 k, .int .i64 n, .slice aA A.length cA, .slice aB B.length cB]] w (NoNew w (fchk 4 k n A B)) := ta_no k n aA aB A B cA cB w hA hl hl2 h
theorem fchk_nonneg (n : Int) (A B : List UInt8) (h : fchk 4 4 n A B = 0) : 0 ≤ n := by
  unfold fchk at h
  by_cases hc : chkM 4 n A B = 0
  · unfold chkM ofM at hc
    by_cases h1 : n < 0
    · rw [if_neg (by decide), if_pos (.inl (show n < (rl 4).least from h1))] at hc
      simp at hc
    · omega
  · rw [if_pos hc] at h; exact absurd h hc
theorem newM_yes (n : Int) (aA aB : Option Addr) (A B : List UInt8) (cA cB : Nat) (w : World) (hA : At w aA (A.map bv)) (_hB : At w aB (B.map bv)) (hl : A.length ≤ 100000000) (hl2 : B.length ≤ 100000000) (h : fchk 4 4 n A B = 0) :
    Calls Try.prog 28 #[.agg #[.int .i64 4, .int .i64 n, .slice aA A.length cA, .slice aB B.length cB]] w (NewM w n A B) := by
  have h0 : 0 ≤ n := fchk_nonneg n A B h
  obtain ⟨m, rfl⟩ : ∃ m : Nat, n = m := ⟨n.toNat, by omega⟩
  refine (ta_yes m aA aB A B cA cB w hA hl hl2 h).mono ?_
  rintro e w' ⟨g, rfl, hg, hr, hf⟩
  exact ⟨g, fun y => y = g, rfl, fun y hy => by omega, hr, hf⟩
/-- The document's answer: the bytes, whether that is all, the error. -/
def docM (n : Int) (_A _B : List UInt8) (b : List UInt8) (ended : Bool) (e : Int × Int × Int) : List UInt8 × Bool × Int × Int × Int :=
  (if rdAll b ended = true then joinM (lastN n.toNat (rlines b ended)) else [], rdAll b ended, if rdAll b ended then (0, 0, 0) else rdErr b ended e)
theorem meansM_any (n : Int) (aA aB : Option Addr) (A B : List UInt8) (cA cB : Nat) (h : chkR 4 n A B = 0) (ig ioff ci : Nat) (s : Strm) (w : World) (_hA : At w aA (A.map bv)) (_hB : At w aB (B.map bv))
    (hrow : Row w ig ioff (strmC s.a s.b s.c s.ended s.ec s.es s.ei)) (hs : At w s.a (s.b.map bv)) (hl : s.b.length ≤ 100000) (hc : s.b.length ≤ s.c) :
    Calls Try.prog 33 #[.agg #[.int .i64 4, .int .i64 n, .slice aA A.length cA, .slice aB B.length cB], .slice (some ⟨ig, ioff, none⟩) 1 ci] w
      (OnePost w (docM n A B s.b s.ended (s.ec, s.es, s.ei)).1 (docM n A B s.b s.ended (s.ec, s.es, s.ei)).2.1 (docM n A B s.b s.ended (s.ec, s.es, s.ei)).2.2) := by
  obtain ⟨h0, h1, h2⟩ := tailBounds n A B h
  exact tail_means 4 n aA aB A.length B.length cA cB ig ioff ci s w h0 (by omega) hrow hs hl hc
theorem sameM (n : Int) (A B : List UInt8) (_h : chkR 4 n A B = 0) (b : List UInt8) (ended : Bool) (ec es ei held taken : Int) (ig ioff ci g off c : Nat) (sa : Option Addr) (sc : Nat) (ia : Option Addr) (ic : Nat) (w : World) (hin : Row w ig ioff (strmC ia b ic ended ec es ei))
    (hw : Row w g off (strmC sa (docM n A B b ended (ec, es, ei)).1 sc (docM n A B b ended (ec, es, ei)).2.1 (docM n A B b ended (ec, es, ei)).2.2.1 (docM n A B b ended (ec, es, ei)).2.2.2.1 (docM n A B b ended (ec, es, ei)).2.2.2.2))
    (hs : At w sa ((docM n A B b ended (ec, es, ei)).1.map bv)) :
    Calls Try.prog 32 #[.agg (gotC (saysM n A B b ended).1 (saysM n A B b ended).2.1 (saysM n A B b ended).2.2 held taken), .slice (some ⟨ig, ioff, none⟩) 1 ci, .slice (some ⟨g, off, none⟩) 1 c] w (SamePost w) := by
  unfold saysM docM at *
  rw [tail_says]
  unfold rdAll rdErr at *
  cases hr : rlong b with
  | true =>
    simp only [hr] at *
    exact same_failed _ held taken ig ioff ci g off c sa sc (-1) 0 w hw hs
  | false =>
    simp only [hr] at *
    cases ended with
    | true => exact same_ended _ held taken ig ioff ci g off c sa sc 0 0 0 w hw hs
    | false => exact same_waits _ held taken ig ioff ci g off c sa sc ec es ei w hw hs ia b ic hin
/-- What Drive finds. -/
def FoundM (R : World → (Nat → Prop) → SM → Prop) (n : Int) (A B : List UInt8) (F : Nat → Prop) (r : List UInt8 × Int × Int) (w : World) (e : Ending) (w' : World) : Prop :=
  ∃ (held : Int) (taken : Nat) (s' : SM) (F' : Nat → Prop), e = .returned (.agg (gotC r.1 r.2.1 r.2.2 held taken)) ∧ 0 ≤ held ∧ held ≤ bndR 4 n A B ∧ R w' F' s' ∧ Fr (InF F) w w' ∧ ∀ b, F' b → F b ∨ w.heap.size ≤ b
theorem drive_gen {m : Meth} {R : World → (Nat → Prop) → SM → Prop} {n : Int} {A B : List UInt8} (hM : Mach (modM n A B) m R) (h : chkR 4 n A B = 0)
    (ig ioff ic : Nat) (ba : Option Addr) (bc : Nat) (b : List UInt8) (ended : Bool) (ec es ei : Int) (ca : Option Addr) (cc : Nat) (cuts : List Int) (F : Nat → Prop) (w : World)
    (hR : R w F (startM n A B)) (hi : Row w ig ioff (strmC ba b bc ended ec es ei)) (hiF : ¬ F ig) (hb : At w ba (b.map bv)) (hbF : 0 < b.length → ∀ x off, ba = some ⟨x, off, none⟩ → ¬ F x) (hbl : b.length ≤ 90000) (hbc : b.length ≤ bc)
    (hc : At w ca (cuts.map iv)) (hcF : 0 < cuts.length → ∀ x off, ca = some ⟨x, off, none⟩ → ¬ F x) (hcl : cuts.length ≤ 100000) :
    Calls Try.prog 31 #[.iface m.U m.x, .slice (some ⟨ig, ioff, none⟩) 1 ic, .slice ca cuts.length cc] w (FoundM R n A B F (saysM n A B b ended) w) := by
  refine (drive_any hM ig ioff ic ba bc b ended ec es ei ca cc cuts (startM n A B) F w hR hi hiF hb hbF hbl hbc hc hcF hcl).mono ?_
  rintro e w' ⟨F', rfl, hr, hf, hF⟩
  have hfound := foundM n A B h b ended cuts hbl
  generalize drive (modM n A B) b ended cuts (startM n A B) = d at *
  refine ⟨d.held, d.taken, d.m, F', ?_, hfound.held0, hfound.held, hr, hf, hF⟩
  rw [hfound.out, hfound.need, hfound.err]
theorem drive_M (g : Nat) (n : Int) (A B : List UInt8) (h : chkR 4 n A B = 0)
    (ig ioff ic : Nat) (ba : Option Addr) (bc : Nat) (b : List UInt8) (ended : Bool) (ec es ei : Int) (ca : Option Addr) (cc : Nat) (cuts : List Int) (F : Nat → Prop) (w : World)
    (hR : RM g n A B w F (startM n A B)) (hi : Row w ig ioff (strmC ba b bc ended ec es ei)) (hiF : ¬ F ig) (hb : At w ba (b.map bv)) (hbF : 0 < b.length → ∀ x off, ba = some ⟨x, off, none⟩ → ¬ F x) (hbl : b.length ≤ 90000) (hbc : b.length ≤ bc)
    (hc : At w ca (cuts.map iv)) (hcF : 0 < cuts.length → ∀ x off, ca = some ⟨x, off, none⟩ → ¬ F x) (hcl : cuts.length ≤ 100000) :
    Calls Try.prog 31 #[.iface 82 (.pointer (some ⟨g, 0, none⟩)), .slice (some ⟨ig, ioff, none⟩) 1 ic, .slice ca cuts.length cc] w (FoundM (RM g n A B) n A B F (saysM n A B b ended) w) :=
  drive_gen (machM g n A B h) h ig ioff ic ba bc b ended ec es ei ca cc cuts F w hR hi hiF hb hbF hbl hbc hc hcF hcl
def TruePost (w : World) (e : Ending) (w' : World) : Prop := e = .returned (.bool true) ∧ Fr No w w'
set_option maxHeartbeats 4000000 in
set_option maxRecDepth 100000 in
theorem awake_any (w : World) : Calls Try.prog 25 #[] w (TruePost w) := by
  have hcv : ∀ (W : World) (g : Nat), g = W.heap.size → (convert 22 22 (.slice (some ⟨g, 0, none⟩) 5 5)).run Try.prog (W.alloc (.cells #[.int .u8 97, .int .u8 10, .int .u8 98, .int .u8 10, .int .u8 99] 5)) = .ok (.slice (some ⟨g, 0, none⟩) 5 5) (W.alloc (.cells #[.int .u8 97, .int .u8 10, .int .u8 98, .int .u8 10, .int .u8 99] 5 (5, 6))) := fun W g hg =>
    conv_const 22 5 Try.underlying22 Try.underlying5 W #[.int .u8 97, .int .u8 10, .int .u8 98, .int .u8 10, .int .u8 99] 5 5 g hg
  have hok : chkR 4 2 [] [] = 0 := by decide
  have hnew := newM_yes 2 none none [] [] 0 0 w (At.nil _ _) (At.nil _ _) (by simp) (by simp) (by decide)
  have HNEW := Lib.hid hnew; clear hnew
  go_enter Try.func25, Try.ntmps25
  go_wp2_with (first
    | (go_at_call 28; refine HNEW.out.mono ?_; rintro e1 w1 ⟨g, F, rfl, hg, hr, hf1⟩
       have HR := Lib.hid hr; have HF1 := Lib.hid hf1; have hcv1 := hcv w1 _ rfl; clear hr hf1))
  have hfd : saysM 2 [] [] [97, 10, 98, 10, 99] true = ([98, 10, 99, 10], -1, 0) := by unfold saysM; kernel_rfl
  have HLT := Lib.hid ((machM g 2 [] [] hok).lt HR.out)
  have hd := drive_M g 2 [] [] hok (w1.heap.size + 1) 0 1 (some ⟨w1.heap.size, 0, none⟩) 5 [97, 10, 98, 10, 99] true 0 0 0 (some ⟨w1.heap.size + 1 + 1, 0, none⟩) 1 [2] F
    (((w1.alloc (.cells #[.int .u8 97, .int .u8 10, .int .u8 98, .int .u8 10, .int .u8 99] 5 (5, 6))).alloc (.cells #[.slice (some ⟨w1.heap.size, 0, none⟩) 5 5, .bool true, .int .i64 0, .int .i64 0, .int .i64 0] 61)).alloc (.cells #[.int .i64 2] 3))
    ((machM g 2 [] [] hok).fr HR.out ((((Fr.refl No w1).alloc _).alloc _).alloc _) (fun _ _ _ x => x) (fun _ _ _ x => x))
    ((row_at _ #[.slice (some ⟨w1.heap.size, 0, none⟩) 5 5, .bool true, .int .i64 0, .int .i64 0, .int .i64 0] _ rfl (w1.heap.size + 1) (by simp) 61 (0, 0)).fr ((Fr.refl No _).alloc _) (fun _ _ x => x)) (fun e => by have := HLT.out _ e; omega)
    (fun _ => ⟨w1.heap.size, 0, rfl, (row_at w1 #[.int .u8 97, .int .u8 10, .int .u8 98, .int .u8 10, .int .u8 99] _ rfl w1.heap.size rfl 5 (5, 6)).fr (((Fr.refl No _).alloc _).alloc _) (fun _ _ x => x)⟩)
    (fun _ x off e h => by injection e with e; injection e with e; have := HLT.out _ h; omega) (by decide) (by decide)
    (fun _ => ⟨w1.heap.size + 1 + 1, 0, rfl, row_at _ #[.int .i64 2] _ rfl (w1.heap.size + 1 + 1) (by simp) 3 (0, 0)⟩) (fun _ x off e h => by injection e with e; injection e with e; have := HLT.out _ h; omega) (by decide)
  rw [hfd] at hd
  refine hd.mono ?_
  rintro e2 w2 ⟨held, taken, s', F', rfl, h0, h64, hr2, hf2, _⟩
  dsimp only [gotC]
  have HF2 := Lib.hid hf2; clear hf2 hr2 hd
  go_wp2
  go_ret
  have hs := HF1.out.size
  refine ⟨rfl, ((((HF1.out.alloc _).alloc _).alloc _).step HF2.out (fun b o hb e => by have h1 := hg _ e; omega)).alloc _⟩
end Go.Proofs.Ytcplbhjpefmliaa
