/- Graphs: the chapter's example. Plainly. -/
import Derived.Test.YtljldkknopmfhaaGrPl
namespace Go.Proofs.Ytljldkknopmfhaa

def exG : Gr := ⟨[⟨1, 0, [], []⟩, ⟨15, 2, [], []⟩, ⟨13, 2, [44], []⟩, ⟨2, 0, [], []⟩], [⟨0, 0, 1, 0, 1⟩, ⟨1, 0, 2, 0, 1⟩, ⟨1, 1, 2, 1, 1⟩, ⟨2, 0, 3, 0, 1⟩]⟩
/-- .. without its last duct. -/
def exH : Gr := ⟨[⟨1, 0, [], []⟩, ⟨15, 2, [], []⟩, ⟨13, 2, [44], []⟩, ⟨2, 0, [], []⟩], [⟨0, 0, 1, 0, 1⟩, ⟨1, 0, 2, 0, 1⟩, ⟨1, 1, 2, 1, 1⟩]⟩
theorem ex_edge {a b : Nat} (h : exG.Edge a b) : a < b := by
  obtain ⟨d, hd, h1, h2⟩ := h
  simp only [exG, List.mem_cons, List.not_mem_nil, or_false] at hd
  rcases hd with rfl | rfl | rfl | rfl <;> simp at h1 h2 <;> omega
theorem ex_reach {a b : Nat} (h : exG.Reach a b) : a < b := by
  induction h with
  | one e => exact ex_edge e
  | more _ e ih => have := ex_edge e; omega
theorem four {P : Nat → Prop} (h0 : P 0) (h1 : P 1) (h2 : P 2) (h3 : P 3) : ∀ i, i < 4 → P i
  | 0, _ => h0
  | 1, _ => h1
  | 2, _ => h2
  | 3, _ => h3
  | n + 4, h => absurd h (by omega)
theorem ex_laid : exG.Laid := by
  refine ⟨by decide, by decide, four (by decide) (by decide) (by decide) (by decide), four (by decide) (by decide) (by decide) (by decide), four ?_ ?_ ?_ ?_⟩ <;>
    (rw [dang_iff (by decide)]; decide)
theorem ex_whole : exG.Whole := ⟨ex_laid, fun i _ h => by have := ex_reach h; omega⟩
theorem ex_check : exG.check = (0, 0) := check_whole ex_whole
theorem ex_order : exG.orderL = [0, 1, 2, 3] := by
  unfold Gr.orderL; rw [if_pos (by rw [ex_check]), show exG.order = [0, 1, 2, 3] from by decide]; rfl
theorem ex_ins : exG.insL 2 = [1, 2] := by
  unfold Gr.insL; rw [if_pos ⟨by rw [ex_check], by decide, by decide⟩]; decide
theorem ex_outs : exG.outsL 1 = [1, 2] := by
  unfold Gr.outsL; rw [if_pos ⟨by rw [ex_check], by decide, by decide⟩]; decide
theorem exh_check : exH.check = (2, 13) := by
  have h2 : exH.P2 := ⟨⟨⟨by decide, by decide⟩, four (by decide) (by decide) (by decide) (by decide)⟩, fun j hj => four (P := fun j => j < exH.du.length → exH.duBad j = 0) (fun _ => by decide) (fun _ => by decide) (fun _ => by decide) (fun h => absurd h (by decide)) j (by have : j < 3 := hj; omega) hj⟩
  have hn : ∀ j, j < 2 → ¬ exH.dang j := fun j hj => four (P := fun j => j < 2 → ¬ exH.dang j) (fun _ => by rw [dang_iff (by decide)]; decide) (fun _ => by rw [dang_iff (by decide)]; decide) (fun h => absurd h (by decide)) (fun h => absurd h (by decide)) j (by omega) hj
  exact check_laidAt (laidAt_da h2 (i := 2) (by decide) hn (by rw [dang_iff (by decide)]; decide))
end Go.Proofs.Ytljldkknopmfhaa
