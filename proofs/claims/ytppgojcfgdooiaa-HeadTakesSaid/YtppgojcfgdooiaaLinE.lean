/- What Drive finds of a machine of lines. -/
import Derived.Test.YtppgojcfgdooiaaDrvC
import Derived.Test.YtppgojcfgdooiaaLns
namespace Go.Proofs.Ytppgojcfgdooiaa
open Go.RowKit

/-- What is found of it: of one that has ended, nothing. -/
def foundL {τ : Type} (f : Each τ) (over : Bool) (t : τ) (b : List UInt8) (ended : Bool) : List UInt8 × Int × Int := if over then ([], -1, 0) else (bmL f).says ([], t) b ended
def FoundPost {τ : Type} (T : World → τ → Prop) (g kL : Nat) (r : List UInt8 × Int × Int) (w : World) (e : Ending) (w' : World) : Prop :=
  ∃ (held : Int) (taken : Nat) (s' : LS τ), e = .returned (.agg (gotC r.1 r.2.1 r.2.2 held taken)) ∧ 0 ≤ held ∧ held ≤ 64 ∧ LRep T g kL w' s' ∧ Fr (fun b _ => b = g) w w'
theorem drive_lines {τ : Type} {f : Each τ} {T : World → τ → Prop} {g kL U : Nat} (hL : LineOk f T g kL false) (hE : EachOk f) (hm : (linesMeth U g).Ok) (over : Bool) (t : τ)
    (ig ioff ic : Nat) (ba : Option Addr) (bc : Nat) (b : List UInt8) (ended : Bool) (ec es ei : Int) (ca : Option Addr) (cc : Nat) (cuts : List Int) (w : World)
    (hR : LRep T g kL w ⟨[], false, over, t⟩) (hi : Row w ig ioff (strmC ba b bc ended ec es ei)) (hiF : ig ≠ g) (hb : At w ba (b.map bv)) (hbF : 0 < b.length → ∀ x off, ba = some ⟨x, off, none⟩ → x ≠ g) (hbl : b.length ≤ 90000) (hbc : b.length ≤ bc)
    (hc : At w ca (cuts.map iv)) (hcF : 0 < cuts.length → ∀ x off, ca = some ⟨x, off, none⟩ → x ≠ g) (hcl : cuts.length ≤ 100000) :
    Calls Try.prog 17 #[.iface U (.pointer (some ⟨g, 0, none⟩)), .slice (some ⟨ig, ioff, none⟩) 1 ic, .slice ca cuts.length cc] w (FoundPost T g kL (foundL f over t b ended) w) := by
  have hM := lines_mach hL hE hm
  refine (drive_any hM ig ioff ic ba bc b ended ec es ei ca cc cuts ⟨[], false, over, t⟩ (fun x => x = g) w ⟨fun x => Iff.rfl, hR⟩ hi hiF hb hbF hbl hbc hc hcF hcl).mono ?_
  rintro e w' ⟨F', rfl, hr, hf, hF⟩
  have hfound : Found (modL f) RepL 64 b (foundL f over t b ended) (drive (modL f) b ended cuts ⟨[], false, over, t⟩) := by
    unfold foundL
    cases over with
    | true =>
      rw [if_pos rfl]
      exact drive_done (stands_lines f) _ (show RepL _ _ from ⟨rfl, by simp⟩) (by decide)
    | false =>
      rw [if_neg (by simp)]
      exact drive_live (stands_lines f) _ ([], t) (show RepL _ _ from ⟨rfl, rfl, rfl, rfl, by simp⟩) (by decide) hbl
  generalize drive (modL f) b ended cuts ⟨[], false, over, t⟩ = d at *
  refine ⟨d.held, d.taken, d.m, ?_, hfound.held0, hfound.held, hr.2, hf⟩
  rw [hfound.out, hfound.need, hfound.err]
end Go.Proofs.Ytppgojcfgdooiaa
