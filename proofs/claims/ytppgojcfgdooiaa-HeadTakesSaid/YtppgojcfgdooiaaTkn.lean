/- How many bytes a machine takes that is handed them one by one. Plain. -/
import Derived.Test.YtppgojcfgdooiaaPlain
namespace Go.Proofs.Ytppgojcfgdooiaa
section
variable {σ β : Type} {M : Mod σ} {b : List UInt8} {ended : Bool} {cuts : List Int} {B : BM β} {H : Int} {Rep : σ → St β → Prop}
/-- How many bytes are taken until it has ended. -/
def BM.eats (B : BM β) : β → List UInt8 → Nat
  | _, [] => 0
  | x, c :: cs => match (B.step x c).2 with
    | .inr _ => 1
    | .inl y => 1 + BM.eats B y cs
theorem taken_end (M : Mod σ) (b : List UInt8) (ended : Bool) (cuts : List Int) : ∀ (fuel n : Nat) (d : Drv σ), d.taken = b.length → (driveF M b ended cuts fuel n d).taken = b.length
  | 0, _, _, h => h
  | fuel + 1, n, d, h => by
    rw [driveF]
    cases hd : drive1 M b ended cuts n d with
    | none => exact h
    | some d' =>
      have h2 : d'.taken = b.length := by
        unfold drive1 at hd
        split at hd
        · cases hd
        · split at hd
          · injection hd with hd; subst hd; exact h
          · split at hd
            · omega
            · split at hd
              · injection hd with hd; subst hd; exact h
              · cases hd
      exact taken_end M b ended cuts fuel (n + 1) d' h2
theorem took_live (hS : Stands M B H Rep) : ∀ (k fuel n : Nat) (d : Drv σ) (x : β), b.length - d.taken ≤ k → k ≤ fuel → Rep d.m (.live x) → d.need = M.need d.m → d.err = 0 → d.taken ≤ b.length →
    (driveF M b ended [0] fuel n d).taken = d.taken + B.eats x (b.drop d.taken) := by
  intro k
  induction k with
  | zero =>
    intro fuel n d x hk _ _ _ _ ht
    have hlen : d.taken = b.length := by omega
    rw [taken_end M b ended [0] fuel n d hlen, hlen, List.drop_length]
    rfl
  | succ k ih =>
    intro fuel n d x hk hf hm hn he ht
    by_cases hlt : d.taken < b.length
    · have hd : d.need = 0 := by rw [hn]; exact hS.live _ _ hm
      obtain ⟨fuel, rfl⟩ : ∃ f, fuel = f + 1 := ⟨fuel - 1, by omega⟩
      have hcut : cutN [0] n = 1 := by unfold cutN; rw [if_neg (by simp)]; simp [Nat.mod_one]
      have hch : chunkOf b [0] n d.taken = [b[d.taken]] := by
        unfold chunkOf; rw [hcut, List.drop_eq_getElem_cons hlt]; rfl
      have h1 : drive1 M b ended [0] n d = some { (d.took M (M.feed d.m [b[d.taken]])) with taken := d.taken + 1 } := by
        unfold drive1
        rw [if_neg (by rw [he, hd]; simp), if_neg (by rw [hd]; simp), if_pos hlt, hch]; rfl
      rw [driveF, h1]
      dsimp only
      obtain ⟨_, e2, e3⟩ := hS.feed _ _ [b[d.taken]] hm (by simp) (by simp)
      rw [List.drop_eq_getElem_cons hlt, BM.eats]
      rw [BM.run] at e2 e3
      generalize b[d.taken] = c at *
      cases hs : B.step x c with
      | mk o r =>
        rw [hs] at e2 e3
        cases r with
        | inl y =>
          obtain ⟨e4, e5⟩ := e2 y rfl
          have := ih fuel (n + 1) { (d.took M (M.feed d.m [c])) with taken := d.taken + 1 } y (by show b.length - (d.taken + 1) ≤ k; omega) (by omega) e5 rfl e4 (by show d.taken + 1 ≤ b.length; omega)
          rw [this]
          show d.taken + 1 + _ = _
          dsimp only; omega
        | inr e =>
          obtain ⟨e4, e5⟩ := e3 e rfl
          rw [driveF_stop (by unfold drive1; rw [if_pos (.inr (show M.need _ = -1 from hS.done _ e5))])]
    · have hlen : d.taken = b.length := by omega
      rw [taken_end M b ended [0] fuel n d hlen, hlen, List.drop_length]
      rfl
theorem drive_took (hS : Stands M B H Rep) (s : σ) (x : β) (hm : Rep s (.live x)) (hb : b.length ≤ 90000) : (drive M b ended [0] s).taken = B.eats x b := by
  have := took_live (b := b) (ended := ended) hS b.length 100000 0 ⟨s, [], M.need s, 0, 0, 0, false⟩ x (by simp) (by omega) hm rfl rfl (Nat.zero_le _)
  simpa [drive] using this
theorem drive_took_done (hS : Stands M B H Rep) (s : σ) (hm : Rep s .done) : (drive M b ended cuts s).taken = 0 := by
  unfold drive
  rw [driveF_stop (by unfold drive1; rw [if_pos (.inr (hS.done _ hm))])]
end
end Go.Proofs.Ytppgojcfgdooiaa
