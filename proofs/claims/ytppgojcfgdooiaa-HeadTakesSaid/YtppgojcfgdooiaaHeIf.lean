/- Head, in the words that all machines' laws ask for. -/
import Derived.Test.YtppgojcfgdooiaaHeadI
namespace Go.Proofs.Ytppgojcfgdooiaa
open Go.RowKit

abbrev SM : Type := LS Int
def modM (_n : Int) (_A _B : List UInt8) : Mod SM := modL headI
def methM (g : Nat) : Meth := linesMeth 74 g
def RM (g : Nat) (_n : Int) (_A _B : List UInt8) : World → (Nat → Prop) → SM → Prop := LR (HeadT g) g 30
def startM (n : Int) (_A _B : List UInt8) : SM := ⟨[], false, decide (n = 0), n⟩
theorem methM_ok (g : Nat) : (methM g).Ok := head_meth g
theorem machM (g : Nat) (n : Int) (A B : List UInt8) (_h : chkR 3 n A B = 0) : Mach (modM n A B) (methM g) (RM g n A B) := head_mach g
theorem refM (g : Nat) (n : Int) (A B : List UInt8) (_h : chkR 3 n A B = 0) : Refuses (modM n A B) (methM g) (RM g n A B) := lines_refuses
def saysM (n : Int) (_A _B : List UInt8) (b : List UInt8) (ended : Bool) : List UInt8 × Int × Int := headR n b ended
theorem headBounds (n : Int) (A B : List UInt8) (h : chkR 3 n A B = 0) : 0 ≤ n ∧ n ≤ 1000000000 ∧ bndR 3 n A B = 64 := by
  obtain ⟨hk, hrow⟩ := chkR_kind 3 n A B h
  refine ⟨?_, ?_, ?_⟩
  · unfold rowR withinB at hrow; simp at hrow; omega
  · unfold rowR withinB at hrow; simp at hrow; omega
  · unfold bndR; rw [if_neg (by simp [h])]; rfl
/-- What is found. -/
structure FoundD (n : Int) (A B : List UInt8) (r : List UInt8 × Int × Int) (d : Drv SM) : Prop where
  out : d.out = r.1
  need : d.need = r.2.1
  err : d.err = r.2.2
  held0 : 0 ≤ d.held
  held : d.held ≤ bndR 3 n A B
theorem foundM (n : Int) (A B : List UInt8) (h : chkR 3 n A B = 0) (b : List UInt8) (ended : Bool) (cuts : List Int) (hb : b.length ≤ 90000) : FoundD n A B (saysM n A B b ended) (drive (modM n A B) b ended cuts (startM n A B)) := by
  obtain ⟨h0, h1, h2⟩ := headBounds n A B h
  have hfound : Found (modL headI) RepL 64 b (foundL headI (decide (n = 0)) n b ended) (drive (modL headI) b ended cuts ⟨[], false, decide (n = 0), n⟩) := by
    unfold foundL
    by_cases hn : n = 0
    · rw [if_pos (by simpa using hn), show decide (n = 0) = true from by simpa using hn]
      exact drive_done (stands_lines headI) _ (show RepL _ _ from ⟨rfl, by simp⟩) (by decide)
    · rw [if_neg (by simpa using hn), show decide (n = 0) = false from by simpa using hn]
      exact drive_live (stands_lines headI) _ ([], n) (show RepL _ _ from ⟨rfl, rfl, rfl, rfl, by simp⟩) (by decide) hb
  rw [found_head n b ended h0 h1] at hfound
  exact ⟨hfound.out, hfound.need, hfound.err, hfound.held0, by rw [h2]; exact hfound.held⟩
def NewM (w : World) (n : Int) (A B : List UInt8) (e : Ending) (w' : World) : Prop :=
  ∃ g F, e = .returned (.tuple #[.iface 74 (.pointer (some ⟨g, 0, none⟩)), .int .i64 0]) ∧ (∀ y, F y → w.heap.size ≤ y) ∧ RM g n A B w' F (startM n A B) ∧ Fr No w w'
theorem newM_no (k n : Int) (aA aB : Option Addr) (A B : List UInt8) (cA cB : Nat) (w : World) (hA : At w aA (A.map bv)) (hl : A.length ≤ 100000000) (hl2 : B.length ≤ 100000000) (h : fchk 3 k n A B ≠ 0) :
    Calls Try.prog 14 #[.agg #[.int .i64 k, .int .i64 n, .slice aA A.length cA, .slice aB B.length cB]] w (NoNew w (fchk 3 k n A B)) := head_no k n aA aB A B cA cB w hA hl hl2 h
theorem newM_yes (n : Int) (aA aB : Option Addr) (A B : List UInt8) (cA cB : Nat) (w : World) (hA : At w aA (A.map bv)) (_hB : At w aB (B.map bv)) (hl : A.length ≤ 100000000) (hl2 : B.length ≤ 100000000) (h : fchk 3 3 n A B = 0) :
    Calls Try.prog 14 #[.agg #[.int .i64 3, .int .i64 n, .slice aA A.length cA, .slice aB B.length cB]] w (NewM w n A B) := by
  refine (head_yes n aA aB A B cA cB w hA hl hl2 h).mono ?_
  rintro e w' ⟨g, rfl, hg, hr, hf⟩
  exact ⟨g, fun y => y = g, rfl, fun y hy => by omega, ⟨fun _ => Iff.rfl, hr⟩, hf⟩
/-- The document's answer: the bytes, whether that is all, the error. -/
def docM (n : Int) (_A _B : List UInt8) (b : List UInt8) (ended : Bool) (e : Int × Int × Int) : List UInt8 × Bool × Int × Int × Int :=
  (joinM ((rlines b ended).take n.toNat), meansAll n b ended, if meansAll n b ended then (0, 0, 0) else rdErr b ended e)
theorem meansM_any (n : Int) (aA aB : Option Addr) (A B : List UInt8) (cA cB : Nat) (h : chkR 3 n A B = 0) (ig ioff ci : Nat) (s : Strm) (w : World) (_hA : At w aA (A.map bv)) (_hB : At w aB (B.map bv))
    (hrow : Row w ig ioff (strmC s.a s.b s.c s.ended s.ec s.es s.ei)) (hs : At w s.a (s.b.map bv)) (hl : s.b.length ≤ 100000) (hc : s.b.length ≤ s.c) :
    Calls Try.prog 19 #[.agg #[.int .i64 3, .int .i64 n, .slice aA A.length cA, .slice aB B.length cB], .slice (some ⟨ig, ioff, none⟩) 1 ci] w
      (OnePost w (docM n A B s.b s.ended (s.ec, s.es, s.ei)).1 (docM n A B s.b s.ended (s.ec, s.es, s.ei)).2.1 (docM n A B s.b s.ended (s.ec, s.es, s.ei)).2.2) := by
  obtain ⟨h0, h1, h2⟩ := headBounds n A B h
  exact means_any 3 n aA aB A.length B.length cA cB ig ioff ci s w h0 h1 hrow hs hl hc
theorem sameM (n : Int) (A B : List UInt8) (_h : chkR 3 n A B = 0) (b : List UInt8) (ended : Bool) (ec es ei held taken : Int) (ig ioff ci g off c : Nat) (sa : Option Addr) (sc : Nat) (ia : Option Addr) (ic : Nat) (w : World) (hin : Row w ig ioff (strmC ia b ic ended ec es ei))
    (hw : Row w g off (strmC sa (docM n A B b ended (ec, es, ei)).1 sc (docM n A B b ended (ec, es, ei)).2.1 (docM n A B b ended (ec, es, ei)).2.2.1 (docM n A B b ended (ec, es, ei)).2.2.2.1 (docM n A B b ended (ec, es, ei)).2.2.2.2))
    (hs : At w sa ((docM n A B b ended (ec, es, ei)).1.map bv)) :
    Calls Try.prog 18 #[.agg (gotC (saysM n A B b ended).1 (saysM n A B b ended).2.1 (saysM n A B b ended).2.2 held taken), .slice (some ⟨ig, ioff, none⟩) 1 ci, .slice (some ⟨g, off, none⟩) 1 c] w (SamePost w) :=
  same_head n b ended ec es ei held taken ig ioff ci g off c sa sc ia ic w hin hw hs
/-- What Drive finds. -/
def FoundM (R : World → (Nat → Prop) → SM → Prop) (n : Int) (A B : List UInt8) (F : Nat → Prop) (r : List UInt8 × Int × Int) (w : World) (e : Ending) (w' : World) : Prop :=
  ∃ (held : Int) (taken : Nat) (s' : SM) (F' : Nat → Prop), e = .returned (.agg (gotC r.1 r.2.1 r.2.2 held taken)) ∧ 0 ≤ held ∧ held ≤ bndR 3 n A B ∧ R w' F' s' ∧ Fr (InF F) w w' ∧ ∀ b, F' b → F b ∨ w.heap.size ≤ b
theorem drive_gen {m : Meth} {R : World → (Nat → Prop) → SM → Prop} {n : Int} {A B : List UInt8} (hM : Mach (modM n A B) m R) (h : chkR 3 n A B = 0)
    (ig ioff ic : Nat) (ba : Option Addr) (bc : Nat) (b : List UInt8) (ended : Bool) (ec es ei : Int) (ca : Option Addr) (cc : Nat) (cuts : List Int) (F : Nat → Prop) (w : World)
    (hR : R w F (startM n A B)) (hi : Row w ig ioff (strmC ba b bc ended ec es ei)) (hiF : ¬ F ig) (hb : At w ba (b.map bv)) (hbF : 0 < b.length → ∀ x off, ba = some ⟨x, off, none⟩ → ¬ F x) (hbl : b.length ≤ 90000) (hbc : b.length ≤ bc)
    (hc : At w ca (cuts.map iv)) (hcF : 0 < cuts.length → ∀ x off, ca = some ⟨x, off, none⟩ → ¬ F x) (hcl : cuts.length ≤ 100000) :
    Calls Try.prog 17 #[.iface m.U m.x, .slice (some ⟨ig, ioff, none⟩) 1 ic, .slice ca cuts.length cc] w (FoundM R n A B F (saysM n A B b ended) w) := by
  refine (drive_any hM ig ioff ic ba bc b ended ec es ei ca cc cuts (startM n A B) F w hR hi hiF hb hbF hbl hbc hc hcF hcl).mono ?_
  rintro e w' ⟨F', rfl, hr, hf, hF⟩
  have hfound := foundM n A B h b ended cuts hbl
  generalize drive (modM n A B) b ended cuts (startM n A B) = d at *
  refine ⟨d.held, d.taken, d.m, F', ?_, hfound.held0, hfound.held, hr, hf, hF⟩
  rw [hfound.out, hfound.need, hfound.err]
theorem drive_M (g : Nat) (n : Int) (A B : List UInt8) (h : chkR 3 n A B = 0)
    (ig ioff ic : Nat) (ba : Option Addr) (bc : Nat) (b : List UInt8) (ended : Bool) (ec es ei : Int) (ca : Option Addr) (cc : Nat) (cuts : List Int) (F : Nat → Prop) (w : World)
    (hR : RM g n A B w F (startM n A B)) (hi : Row w ig ioff (strmC ba b bc ended ec es ei)) (hiF : ¬ F ig) (hb : At w ba (b.map bv)) (hbF : 0 < b.length → ∀ x off, ba = some ⟨x, off, none⟩ → ¬ F x) (hbl : b.length ≤ 90000) (hbc : b.length ≤ bc)
    (hc : At w ca (cuts.map iv)) (hcF : 0 < cuts.length → ∀ x off, ca = some ⟨x, off, none⟩ → ¬ F x) (hcl : cuts.length ≤ 100000) :
    Calls Try.prog 17 #[.iface 74 (.pointer (some ⟨g, 0, none⟩)), .slice (some ⟨ig, ioff, none⟩) 1 ic, .slice ca cuts.length cc] w (FoundM (RM g n A B) n A B F (saysM n A B b ended) w) :=
  drive_gen (machM g n A B h) h ig ioff ic ba bc b ended ec es ei ca cc cuts F w hR hi hiF hb hbF hbl hbc hc hcF hcl
end Go.Proofs.Ytppgojcfgdooiaa
