
/- Bytes cut into lines, plainly. Nothing of the program stands here. -/
import Derived.Test.YtjnebkoohimgjaaDoorBase
namespace Go.Proofs.YtjnebkoohimgjaaDoor

/-- What Cut does: the lines that are ended, the line that is begun, whether it has failed. -/
def cutM : List UInt8 → List UInt8 → List (List UInt8) → List (List UInt8) × List UInt8 × Bool
  | [], cs, acc => (acc, cs, false)
  | x :: xs, cs, acc => if x = 10 then cutM xs [] (acc ++ [cs]) else if cs.length = 64 then (acc, [], true) else cutM xs (cs ++ [x]) acc
theorem cutM_len : ∀ (bs cs : List UInt8) (acc : List (List UInt8)), (cutM bs cs acc).1.length ≤ acc.length + bs.length
  | [], cs, acc => by simp [cutM]
  | x :: xs, cs, acc => by
    rw [cutM]
    split
    · have := cutM_len xs [] (acc ++ [cs]); simp at this ⊢; omega
    · split
      · simp
      · have := cutM_len xs (cs ++ [x]) acc; simp at this ⊢; omega

theorem cutM_acc : ∀ (a cs : List UInt8) (acc : List (List UInt8)), cutM a cs acc = (acc ++ (cutM a cs []).1, (cutM a cs []).2)
  | [], cs, acc => by simp [cutM]
  | x :: xs, cs, acc => by
    rw [cutM, cutM]
    split
    · rw [cutM_acc xs [] (acc ++ [cs]), cutM_acc xs [] ([] ++ [cs])]; simp
    · split
      · simp
      · rw [cutM_acc xs (cs ++ [x]) acc]
theorem cutM_app : ∀ (a b cs : List UInt8) (acc : List (List UInt8)), cutM (a ++ b) cs acc = if (cutM a cs acc).2.2 then cutM a cs acc else cutM b (cutM a cs acc).2.1 (cutM a cs acc).1
  | [], b, cs, acc => by simp [cutM]
  | x :: xs, b, cs, acc => by
    rw [List.cons_append, cutM, cutM]
    split
    · exact cutM_app xs b [] (acc ++ [cs])
    · split
      · simp
      · exact cutM_app xs b (cs ++ [x]) acc

/-- The bytes of lines. -/
def joinM (l : List (List UInt8)) : List UInt8 := l.flatMap (· ++ [10])
theorem joinM_take (l : List (List UInt8)) (k : Nat) (h : k < l.length) : joinM (l.take (k + 1)) = joinM (l.take k) ++ l[k] ++ [10] := by
  unfold joinM; rw [List.take_succ_eq_append_getElem h, List.flatMap_append]; simp
theorem joinM_le (l : List (List UInt8)) (k : Nat) : (joinM (l.take k)).length ≤ (joinM l).length := by
  unfold joinM
  conv => rhs; rw [← List.take_append_drop k l, List.flatMap_append]
  rw [List.length_append]; omega
end Go.Proofs.YtjnebkoohimgjaaDoor

/- Machines that are driven, in plain words: a machine of chunks stands for one of bytes; what Drive finds is what that one says of all the bytes, however they are cut. Nothing of the program stands here. -/
namespace Go.Proofs.YtjnebkoohimgjaaDoor

/-- A machine: which input it wants (0; -1: it has ended; -2: it has pieces), what it holds, and what comes of bytes, of the end, of asking for a piece: the machine then, what comes out, an error. -/
structure Mod (σ : Type) where
  need : σ → Int
  held : σ → Int
  feed : σ → List UInt8 → σ × List (List UInt8) × Int
  fin : σ → σ × List (List UInt8) × Int
  more : σ → σ × List (List UInt8) × Int

/-- What Drive keeps. -/
structure Drv (σ : Type) where
  m : σ
  out : List UInt8
  need : Int
  err : Int
  held : Int
  taken : Nat
  told : Bool

/-- How many bytes go at once, the n-th time. -/
def cutN (cuts : List Int) (n : Nat) : Nat := if cuts = [] then 32 else ((cuts.getD (n % cuts.length) 0).tmod 32).natAbs + 1
theorem cutN_pos (cuts : List Int) (n : Nat) : 1 ≤ cutN cuts n ∧ cutN cuts n ≤ 32 := by
  unfold cutN
  split
  · omega
  · have h1 := Int.tmod_lt_of_pos (cuts.getD (n % cuts.length) 0) (b := 32) (by decide)
    have h2 := Int.lt_tmod_of_pos (cuts.getD (n % cuts.length) 0) (b := 32) (by decide)
    omega

section
variable {σ β : Type} (M : Mod σ) (b : List UInt8) (ended : Bool) (cuts : List Int)
/-- The bytes that go next. -/
def chunkOf (b : List UInt8) (cuts : List Int) (n taken : Nat) : List UInt8 := (b.drop taken).take (cutN cuts n)
/-- What an answer makes of it. -/
def Drv.took (M : Mod σ) (d : Drv σ) (r : σ × List (List UInt8) × Int) : Drv σ :=
  { d with m := r.1, out := d.out ++ r.2.1.flatten, err := r.2.2, held := max d.held (M.held r.1), need := M.need r.1 }
/-- One round. -/
def drive1 (n : Nat) (d : Drv σ) : Option (Drv σ) :=
  if d.err ≠ 0 ∨ d.need = -1 then none
  else if d.need = -2 then some (d.took M (M.more d.m))
  else if d.taken < b.length then some { (d.took M (M.feed d.m (chunkOf b cuts n d.taken))) with taken := d.taken + (chunkOf b cuts n d.taken).length }
  else if ended = true ∧ d.told = false then some { (d.took M (M.fin d.m)) with told := true }
  else none
def driveF : Nat → Nat → Drv σ → Drv σ
  | 0, _, d => d
  | fuel + 1, n, d => match drive1 M b ended cuts n d with
    | none => d
    | some d' => driveF fuel (n + 1) d'
def drive (s : σ) : Drv σ := driveF M b ended cuts 100000 0 ⟨s, [], M.need s, 0, 0, 0, false⟩

/-- A machine of bytes: what comes of one: bytes, and either it goes on or it ends, by 0 or by an error; and what comes of the end. -/
structure BM (β : Type) where
  step : β → UInt8 → List UInt8 × (β ⊕ Int)
  fin : β → List UInt8
def BM.run (B : BM β) : β → List UInt8 → List UInt8 × (β ⊕ Int)
  | x, [] => ([], .inl x)
  | x, c :: cs => match B.step x c with
    | (o, .inr e) => (o, .inr e)
    | (o, .inl y) => (o ++ (B.run y cs).1, (B.run y cs).2)
theorem BM.run_app (B : BM β) : ∀ (a c : List UInt8) (x : β), B.run x (a ++ c) = match (B.run x a).2 with
    | .inr e => ((B.run x a).1, .inr e)
    | .inl y => ((B.run x a).1 ++ (B.run y c).1, (B.run y c).2)
  | [], c, x => by simp [BM.run]
  | y :: a, c, x => by
    rw [List.cons_append, BM.run, BM.run]
    rcases hs : B.step x y with ⟨o, z | e⟩
    · dsimp only
      rw [BM.run_app B a c z]
      rcases (B.run z a).2 with z' | e
      · simp
      · simp
    · rfl
/-- All that it says of an input: what comes out, which input it then wants (or -1), its error. -/
def BM.says (B : BM β) (x : β) (b : List UInt8) (ended : Bool) : List UInt8 × Int × Int :=
  match (B.run x b).2 with
  | .inr e => ((B.run x b).1, -1, e)
  | .inl y => if ended then ((B.run x b).1 ++ B.fin y, -1, 0) else ((B.run x b).1, 0, 0)

inductive St (β : Type)
  | live (x : β)
  | flush (rest : List (List UInt8))
  | done
/-- How a machine of chunks stands for one of bytes: H: what it holds at most. -/
structure Stands (M : Mod σ) (B : BM β) (H : Int) (Rep : σ → St β → Prop) : Prop where
  live : ∀ s x, Rep s (.live x) → M.need s = 0
  flush : ∀ s r, Rep s (.flush r) → M.need s = -2 ∧ r ≠ []
  done : ∀ s, Rep s .done → M.need s = -1
  held : ∀ s t, Rep s t → 0 ≤ M.held s ∧ M.held s ≤ H
  feed : ∀ s x c, Rep s (.live x) → 1 ≤ c.length → c.length ≤ 32 → (M.feed s c).2.1.flatten = (B.run x c).1 ∧
    (∀ y, (B.run x c).2 = .inl y → (M.feed s c).2.2 = 0 ∧ Rep (M.feed s c).1 (.live y)) ∧ (∀ e, (B.run x c).2 = .inr e → (M.feed s c).2.2 = e ∧ Rep (M.feed s c).1 .done)
  fin : ∀ s x, Rep s (.live x) → (M.fin s).2.2 = 0 ∧ ((∃ r, r.length ≤ 5000 ∧ (M.fin s).2.1.flatten ++ r.flatten = B.fin x ∧ Rep (M.fin s).1 (.flush r)) ∨ ((M.fin s).2.1.flatten = B.fin x ∧ Rep (M.fin s).1 .done))
  more : ∀ s p r, Rep s (.flush (p :: r)) → (M.more s).2.2 = 0 ∧ (M.more s).2.1.flatten = p ∧ Rep (M.more s).1 (if r = [] then .done else .flush r)

/-- What is found in the end: what came out, what it wants, its error, how many bytes it held at most, how many were taken, and that it stands for something. -/
structure Found (M : Mod σ) (Rep : σ → St β → Prop) (H : Int) (b : List UInt8) (r : List UInt8 × Int × Int) (d : Drv σ) : Prop where
  out : d.out = r.1
  need : d.need = r.2.1
  err : d.err = r.2.2
  held0 : 0 ≤ d.held
  held : d.held ≤ H
  taken : d.taken ≤ b.length
  rep : ∃ t, Rep d.m t

variable {M b ended cuts} {B : BM β} {H : Int} {Rep : σ → St β → Prop}
theorem driveF_stop {fuel n : Nat} {d : Drv σ} (h : drive1 M b ended cuts n d = none) : driveF M b ended cuts fuel n d = d := by
  cases fuel with
  | zero => rfl
  | succ fuel => rw [driveF, h]
theorem found_done (hS : Stands M B H Rep) {fuel n : Nat} {d : Drv σ} (hm : Rep d.m .done) (hn : d.need = M.need d.m) (h0 : 0 ≤ d.held) (hH : d.held ≤ H) (ht : d.taken ≤ b.length) :
    Found M Rep H b (d.out, -1, d.err) (driveF M b ended cuts fuel n d) := by
  have hd : d.need = -1 := by rw [hn]; exact hS.done _ hm
  rw [driveF_stop (by unfold drive1; rw [if_pos (.inr hd)])]
  exact ⟨rfl, hd, rfl, h0, hH, ht, _, hm⟩
theorem found_flush (hS : Stands M B H Rep) : ∀ (r : List (List UInt8)) (fuel n : Nat) (d : Drv σ), r.length ≤ fuel → Rep d.m (.flush r) → d.need = M.need d.m → d.err = 0 → 0 ≤ d.held → d.held ≤ H → d.taken ≤ b.length →
    Found M Rep H b (d.out ++ r.flatten, -1, 0) (driveF M b ended cuts fuel n d)
  | [], _, _, d, _, hm, _, _, _, _, _ => absurd rfl (hS.flush _ _ hm).2
  | p :: r, fuel, n, d, hf, hm, hn, he, h0, hH, ht => by
    cases fuel with
    | zero => simp at hf
    | succ fuel =>
      have hd : d.need = -2 := by rw [hn]; exact (hS.flush _ _ hm).1
      have h1 : drive1 M b ended cuts n d = some (d.took M (M.more d.m)) := by
        unfold drive1
        rw [if_neg (by rw [he, hd]; simp), if_pos hd]
      rw [driveF, h1]
      dsimp only
      obtain ⟨e1, e2, e3⟩ := hS.more _ _ _ hm
      have hh : ∃ t, Rep (M.more d.m).1 t := ⟨_, e3⟩
      obtain ⟨t, htt⟩ := hh
      obtain ⟨g0, gH⟩ := hS.held _ _ htt
      by_cases hr : r = []
      · subst hr
        rw [if_pos rfl] at e3
        have := found_done (b := b) (ended := ended) (cuts := cuts) hS (fuel := fuel) (n := n + 1) (d := d.took M (M.more d.m)) e3 rfl (by show 0 ≤ max _ _; omega) (by show max _ _ ≤ H; omega) ht
        simpa [Drv.took, e1, e2] using this
      · rw [if_neg hr] at e3
        have := found_flush hS r fuel (n + 1) (d.took M (M.more d.m)) (by simp at hf; omega) e3 rfl e1 (by show 0 ≤ max _ _; omega) (by show max _ _ ≤ H; omega) ht
        simpa [Drv.took, e2] using this
theorem found_live (hS : Stands M B H Rep) : ∀ (k fuel n : Nat) (d : Drv σ) (x : β), b.length - d.taken ≤ k → k + 5001 ≤ fuel → Rep d.m (.live x) → d.need = M.need d.m → d.err = 0 → d.told = false → 0 ≤ d.held → d.held ≤ H → d.taken ≤ b.length →
    Found M Rep H b (d.out ++ (B.says x (b.drop d.taken) ended).1, (B.says x (b.drop d.taken) ended).2) (driveF M b ended cuts fuel n d) := by
  intro k
  induction k with
  | zero =>
    intro fuel n d x hk hf hm hn he htold h0 hH ht
    have hd : d.need = 0 := by rw [hn]; exact hS.live _ _ hm
    have hlen : d.taken = b.length := by omega
    have hdrop : b.drop d.taken = [] := by rw [hlen]; exact List.drop_length
    rw [hdrop]
    cases hend : ended with
    | false =>
      subst hend
      rw [driveF_stop (by unfold drive1; rw [if_neg (by rw [he, hd]; simp), if_neg (by rw [hd]; simp), if_neg (by omega), if_neg (by simp)])]
      simp [BM.says, BM.run]
      exact ⟨rfl, hd, he, h0, hH, ht, _, hm⟩
    | true =>
      subst hend
      obtain ⟨fuel, rfl⟩ : ∃ f, fuel = f + 1 := ⟨fuel - 1, by omega⟩
      have h1 : drive1 M b true cuts n d = some { (d.took M (M.fin d.m)) with told := true } := by
        unfold drive1
        rw [if_neg (by rw [he, hd]; simp), if_neg (by rw [hd]; simp), if_neg (by omega), if_pos ⟨rfl, htold⟩]
      rw [driveF, h1]
      dsimp only
      obtain ⟨e1, e2⟩ := hS.fin _ _ hm
      rcases e2 with ⟨r, hr, hfl, hrep⟩ | ⟨hfl, hrep⟩
      · obtain ⟨g0, gH⟩ := hS.held _ _ hrep
        have := found_flush (b := b) (ended := true) (cuts := cuts) hS r fuel (n + 1) { (d.took M (M.fin d.m)) with told := true } (by omega) hrep rfl e1 (by show 0 ≤ max _ _; omega) (by show max _ _ ≤ H; omega) ht
        simp only [Drv.took, List.append_assoc, hfl] at this
        simpa [BM.says, BM.run, Drv.took] using this
      · obtain ⟨g0, gH⟩ := hS.held _ _ hrep
        have := found_done (b := b) (ended := true) (cuts := cuts) hS (fuel := fuel) (n := n + 1) (d := { (d.took M (M.fin d.m)) with told := true }) hrep rfl (by show 0 ≤ max _ _; omega) (by show max _ _ ≤ H; omega) ht
        simp only [Drv.took, hfl, e1] at this
        simpa [BM.says, BM.run, Drv.took, hfl, e1] using this
  | succ k ih =>
    intro fuel n d x hk hf hm hn he htold h0 hH ht
    by_cases hlt : d.taken < b.length
    · have hd : d.need = 0 := by rw [hn]; exact hS.live _ _ hm
      obtain ⟨fuel, rfl⟩ : ∃ f, fuel = f + 1 := ⟨fuel - 1, by omega⟩
      have hc := cutN_pos cuts n
      have hcl : (chunkOf b cuts n d.taken).length = min (cutN cuts n) (b.length - d.taken) := by simp [chunkOf]
      have h1 : drive1 M b ended cuts n d = some { (d.took M (M.feed d.m (chunkOf b cuts n d.taken))) with taken := d.taken + (chunkOf b cuts n d.taken).length } := by
        unfold drive1
        rw [if_neg (by rw [he, hd]; simp), if_neg (by rw [hd]; simp), if_pos hlt]
      rw [driveF, h1]
      dsimp only
      obtain ⟨e1, e2, e3⟩ := hS.feed _ _ (chunkOf b cuts n d.taken) hm (by omega) (by omega)
      have hsplit : b.drop d.taken = chunkOf b cuts n d.taken ++ b.drop (d.taken + (chunkOf b cuts n d.taken).length) := by
        rw [← List.drop_drop]
        have : (chunkOf b cuts n d.taken) = (b.drop d.taken).take (chunkOf b cuts n d.taken).length := by
          rw [hcl]; unfold chunkOf
          apply List.ext_getElem?
          intro i
          rw [List.getElem?_take, List.getElem?_take]
          by_cases hi : i < cutN cuts n
          · rw [if_pos hi]
            by_cases hi2 : i < min (cutN cuts n) (b.length - d.taken)
            · rw [if_pos hi2]
            · rw [if_neg hi2, List.getElem?_eq_none (by simp; omega)]
          · rw [if_neg hi, if_neg (by omega)]
        conv => lhs; rw [← List.take_append_drop (chunkOf b cuts n d.taken).length (b.drop d.taken)]
        rw [← this]
      generalize chunkOf b cuts n d.taken = c at *
      have hrun := B.run_app c (b.drop (d.taken + c.length)) x
      have hlen2 : d.taken + c.length ≤ b.length := by omega
      cases hr : (B.run x c).2 with
      | inl y =>
        rw [hr] at hrun
        obtain ⟨e4, e5⟩ := e2 y hr
        obtain ⟨g0, gH⟩ := hS.held _ _ e5
        have := ih fuel (n + 1) { (d.took M (M.feed d.m c)) with taken := d.taken + c.length } y (by show b.length - (d.taken + c.length) ≤ k; omega) (by omega) e5 rfl e4 htold (by show 0 ≤ max _ _; omega) (by show max _ _ ≤ H; omega) hlen2
        have hsays : B.says x (b.drop d.taken) ended = ((B.run x c).1 ++ (B.says y (b.drop (d.taken + c.length)) ended).1, (B.says y (b.drop (d.taken + c.length)) ended).2) := by
          unfold BM.says
          rw [hsplit, hrun]
          dsimp only
          rcases (B.run y (b.drop (d.taken + c.length))).2 with z | e
          · dsimp only
            cases ended <;> simp
          · rfl
        rw [hsays]
        simpa [Drv.took, e1, List.append_assoc] using this
      | inr e =>
        rw [hr] at hrun
        obtain ⟨e4, e5⟩ := e3 e hr
        obtain ⟨g0, gH⟩ := hS.held _ _ e5
        have := found_done (b := b) (ended := ended) (cuts := cuts) hS (fuel := fuel) (n := n + 1) (d := { (d.took M (M.feed d.m c)) with taken := d.taken + c.length }) e5 rfl (by show 0 ≤ max _ _; omega) (by show max _ _ ≤ H; omega) hlen2
        have hsays : B.says x (b.drop d.taken) ended = ((B.run x c).1, -1, e) := by
          unfold BM.says
          rw [hsplit, hrun]
        rw [hsays]
        simpa [Drv.took, e1, e4] using this
    · exact ih fuel n d x (by omega) (by omega) hm hn he htold h0 hH ht

/-- However it is cut, the same is found. -/
theorem drive_live (hS : Stands M B H Rep) (s : σ) (x : β) (hm : Rep s (.live x)) (hH : 0 ≤ H) (hb : b.length ≤ 90000) : Found M Rep H b (B.says x b ended) (drive M b ended cuts s) := by
  have := found_live (b := b) (ended := ended) (cuts := cuts) hS b.length 100000 0 ⟨s, [], M.need s, 0, 0, 0, false⟩ x (by simp) (by omega) hm rfl rfl rfl (Int.le_refl _) hH (Nat.zero_le _)
  simpa [drive] using this
theorem drive_done (hS : Stands M B H Rep) (s : σ) (hm : Rep s .done) (hH : 0 ≤ H) : Found M Rep H b ([], -1, 0) (drive M b ended cuts s) :=
  found_done (b := b) (ended := ended) (cuts := cuts) hS (fuel := 100000) (n := 0) (d := ⟨s, [], M.need s, 0, 0, 0, false⟩) hm rfl (Int.le_refl _) hH (Nat.zero_le _)
end
end Go.Proofs.YtjnebkoohimgjaaDoor

/- Machines of lines, plainly: what they do with chunks stands for what they do byte by byte. -/
namespace Go.Proofs.YtjnebkoohimgjaaDoor

/-- A machine of lines: the line that is begun, whether it has ended; and what is its own. -/
structure LS (τ : Type) where
  cs : List UInt8
  failed : Bool
  over : Bool
  t : τ
/-- What comes of a line: what is its own then, what comes out, whether that was all. -/
abbrev Each (τ : Type) := τ → List UInt8 → τ × List (List UInt8) × Bool
section
variable {τ : Type} (f : Each τ)
def eachs : τ → List (List UInt8) → τ × List (List UInt8) × Bool
  | t, [] => (t, [], false)
  | t, l :: ls => if (f t l).2.2 then ((f t l).1, (f t l).2.1, true) else ((eachs (f t l).1 ls).1, (f t l).2.1 ++ (eachs (f t l).1 ls).2.1, (eachs (f t l).1 ls).2.2)
def feedL (s : LS τ) (c : List UInt8) : LS τ × List (List UInt8) × Int :=
  let k := cutM c s.cs []
  let r := eachs f s.t k.1
  if r.2.2 then (⟨k.2.1, k.2.2, true, r.1⟩, r.2.1, 0)
  else if k.2.2 then (⟨[], true, true, r.1⟩, r.2.1, 20)
  else (⟨k.2.1, false, false, r.1⟩, r.2.1, 0)
def finL (s : LS τ) : LS τ × List (List UInt8) × Int :=
  if s.cs = [] then (⟨[], s.failed, true, s.t⟩, [], 0) else (⟨[], s.failed, true, (f s.t s.cs).1⟩, (f s.t s.cs).2.1, 0)
/-- The machine. -/
def modL : Mod (LS τ) where
  need s := if s.over then -1 else 0
  held s := s.cs.length
  feed := feedL f
  fin := finL f
  more s := (s, [], 4)
/-- Byte by byte. -/
def bmL : BM (List UInt8 × τ) where
  step x c := if c = 10 then ((f x.2 x.1).2.1.flatten, if (f x.2 x.1).2.2 then .inr 0 else .inl ([], (f x.2 x.1).1))
    else if x.1.length = 64 then ([], .inr 20) else ([], .inl (x.1 ++ [c], x.2))
  fin x := if x.1 = [] then [] else (f x.2 x.1).2.1.flatten
def RepL (s : LS τ) : St (List UInt8 × τ) → Prop
  | .live x => s.over = false ∧ s.failed = false ∧ s.cs = x.1 ∧ s.t = x.2 ∧ s.cs.length ≤ 64
  | .flush _ => False
  | .done => s.over = true ∧ s.cs.length ≤ 64

theorem cutM_begun : ∀ (b cs : List UInt8) (acc : List (List UInt8)), cs.length ≤ 64 → (cutM b cs acc).2.1.length ≤ 64
  | [], cs, acc, h => by simpa [cutM] using h
  | x :: xs, cs, acc, h => by
    rw [cutM]
    split
    · exact cutM_begun xs [] _ (by simp)
    · split
      · simp
      · exact cutM_begun xs (cs ++ [x]) acc (by simp; omega)
theorem cutM_failed : ∀ (b cs : List UInt8) (acc : List (List UInt8)), (cutM b cs acc).2.2 = true → (cutM b cs acc).2.1 = []
  | [], cs, acc, h => by simp [cutM] at h
  | x :: xs, cs, acc, h => by
    rw [cutM] at h ⊢
    split
    · rename_i hx; rw [if_pos hx] at h; exact cutM_failed xs [] _ h
    · rename_i hx
      rw [if_neg hx] at h
      split
      · rfl
      · rename_i hy; rw [if_neg hy] at h; exact cutM_failed xs _ acc h

/-- Byte by byte it is the same as by the lines of the whole. -/
theorem run_lines : ∀ (b cs : List UInt8) (t : τ), (bmL f).run (cs, t) b =
    if (eachs f t (cutM b cs []).1).2.2 then ((eachs f t (cutM b cs []).1).2.1.flatten, .inr 0)
    else if (cutM b cs []).2.2 then ((eachs f t (cutM b cs []).1).2.1.flatten, .inr 20)
    else ((eachs f t (cutM b cs []).1).2.1.flatten, .inl ((cutM b cs []).2.1, (eachs f t (cutM b cs []).1).1))
  | [], cs, t => by simp [BM.run, cutM, eachs]
  | x :: xs, cs, t => by
    rw [BM.run]
    by_cases hx : x = 10
    · have hs : (bmL f).step (cs, t) x = ((f t cs).2.1.flatten, if (f t cs).2.2 then .inr 0 else .inl ([], (f t cs).1)) := by simp [bmL, hx]
      have hc : cutM (x :: xs) cs [] = ([cs] ++ (cutM xs [] []).1, (cutM xs [] []).2) := by rw [cutM, if_pos hx, List.nil_append, cutM_acc]
      rw [hs, hc]
      dsimp only
      have he : eachs f t ([cs] ++ (cutM xs [] []).1) = if (f t cs).2.2 then ((f t cs).1, (f t cs).2.1, true) else ((eachs f (f t cs).1 (cutM xs [] []).1).1, (f t cs).2.1 ++ (eachs f (f t cs).1 (cutM xs [] []).1).2.1, (eachs f (f t cs).1 (cutM xs [] []).1).2.2) := rfl
      rw [he]
      by_cases hf : (f t cs).2.2
      · rw [if_pos hf, if_pos hf]; simp
      · rw [if_neg hf, if_neg hf]
        dsimp only
        rw [run_lines xs [] (f t cs).1]
        split
        · simp
        · split <;> simp
    · by_cases h64 : cs.length = 64
      · have hs : (bmL f).step (cs, t) x = ([], .inr 20) := by simp [bmL, hx, h64]
        have hc : cutM (x :: xs) cs [] = ([], [], true) := by rw [cutM, if_neg hx, if_pos h64]
        rw [hs, hc]
        simp [eachs]
      · have hs : (bmL f).step (cs, t) x = ([], .inl (cs ++ [x], t)) := by simp [bmL, hx, h64]
        have hc : cutM (x :: xs) cs [] = cutM xs (cs ++ [x]) [] := by rw [cutM, if_neg hx, if_neg h64]
        rw [hs, hc]
        dsimp only
        rw [run_lines xs (cs ++ [x]) t]
        split
        · simp
        · split <;> simp

theorem stands_lines : Stands (modL f) (bmL f) 64 RepL where
  live s x h := by simp [modL, h.1]
  flush s r h := h.elim
  done s h := by simp [modL, h.1]
  held s t h := by
    have : s.cs.length ≤ 64 := by
      cases t with
      | live x => exact h.2.2.2.2
      | flush r => exact h.elim
      | done => exact h.2
    simp [modL]; omega
  feed s x c h h1 h2 := by
    obtain ⟨x1, x2⟩ := x
    obtain ⟨a1, a2, a3, a4, a5⟩ := h
    dsimp only at a3 a4
    subst a3; subst a4
    have hr := run_lines f c s.cs s.t
    have hb := cutM_begun c s.cs [] a5
    show (feedL f s c).2.1.flatten = _ ∧ _
    unfold modL feedL
    dsimp only
    rw [hr]
    by_cases e1 : (eachs f s.t (cutM c s.cs []).1).2.2
    · rw [if_pos e1, if_pos e1]
      refine ⟨rfl, fun y hy => ?_, fun e he => ?_⟩
      · cases hy
      · injection he with he; subst he; exact ⟨rfl, rfl, hb⟩
    · rw [if_neg e1, if_neg e1]
      by_cases e2 : (cutM c s.cs []).2.2
      · rw [if_pos e2, if_pos e2]
        refine ⟨rfl, fun y hy => ?_, fun e he => ?_⟩
        · cases hy
        · injection he with he; subst he; exact ⟨rfl, rfl, by simp⟩
      · rw [if_neg e2, if_neg e2]
        refine ⟨rfl, fun y hy => ?_, fun e he => ?_⟩
        · injection hy with hy; subst hy; exact ⟨rfl, rfl, rfl, rfl, rfl, hb⟩
        · cases he
  fin s x h := by
    obtain ⟨x1, x2⟩ := x
    obtain ⟨a1, a2, a3, a4, a5⟩ := h
    dsimp only at a3 a4
    subst a3; subst a4
    show (finL f s).2.2 = 0 ∧ _
    unfold modL finL bmL
    dsimp only
    by_cases e : s.cs = []
    · rw [if_pos e, if_pos e]; exact ⟨rfl, .inr ⟨rfl, rfl, by simp⟩⟩
    · rw [if_neg e, if_neg e]; exact ⟨rfl, .inr ⟨rfl, rfl, by simp⟩⟩
  more s p r h := h.elim
end
end Go.Proofs.YtjnebkoohimgjaaDoor

/- What machines of lines find, against what the document says of an input's lines. Plain. -/
namespace Go.Proofs.YtjnebkoohimgjaaDoor

/-- The lines of an input, as far as they are sure; whether there is one that is too long. -/
def rlines (b : List UInt8) (ended : Bool) : List (List UInt8) :=
  if (cutM b [] []).2.2 = true then (cutM b [] []).1 else if ended = true ∧ (cutM b [] []).2.1 ≠ [] then (cutM b [] []).1 ++ [(cutM b [] []).2.1] else (cutM b [] []).1
def rlong (b : List UInt8) : Bool := (cutM b [] []).2.2

/-- The first lines: how many are left. -/
def headF : Each Nat := fun left s => (left - 1, [s ++ [10]], decide (left - 1 = 0))
theorem eachs_head : ∀ (ls : List (List UInt8)) (n : Nat), 1 ≤ n → eachs headF n ls = if n ≤ ls.length then (0, (ls.take n).map (· ++ [10]), true) else (n - ls.length, ls.map (· ++ [10]), false)
  | [], n, h => by rw [if_neg (by simp; omega)]; rfl
  | l :: ls, n, h => by
    rw [eachs]
    by_cases h1 : n = 1
    · subst h1
      rw [if_pos (by simp [headF]), if_pos (by simp)]
      simp [headF]
    · rw [if_neg (by simp [headF]; omega)]
      have ih := eachs_head ls (n - 1) (by omega)
      show ((eachs headF (n - 1) ls).1, [l ++ [10]] ++ (eachs headF (n - 1) ls).2.1, (eachs headF (n - 1) ls).2.2) = _
      rw [ih]
      by_cases h2 : n - 1 ≤ ls.length
      · rw [if_pos h2, if_pos (by simp; omega)]
        obtain ⟨m, rfl⟩ : ∃ m, n = m + 1 := ⟨n - 1, by omega⟩
        simp
      · rw [if_neg h2, if_neg (by simp; omega)]
        simp; omega
theorem flat_join (ls : List (List UInt8)) : (ls.map (· ++ [10])).flatten = joinM ls := by
  unfold joinM; rw [List.flatMap_def]
theorem head_says (b : List UInt8) (ended : Bool) (n : Nat) (h : 1 ≤ n) : (bmL headF).says ([], n) b ended =
    (joinM ((rlines b ended).take n), if n ≤ (rlines b ended).length ∨ (rlong b = false ∧ ended = true) then (-1, 0) else if rlong b = true then (-1, 20) else (0, 0)) := by
  unfold BM.says
  rw [run_lines]
  unfold rlines rlong
  generalize cutM b [] [] = k
  obtain ⟨ls, rest, fl⟩ := k
  dsimp only
  rw [eachs_head ls n h]
  by_cases h1 : n ≤ ls.length
  · rw [if_pos h1]
    dsimp only
    rw [if_pos rfl]
    dsimp only
    have e1 : n ≤ (if fl = true then ls else if ended = true ∧ rest ≠ [] then ls ++ [rest] else ls).length := by split; exact h1; split; simp; omega; exact h1
    have e2 : (if fl = true then ls else if ended = true ∧ rest ≠ [] then ls ++ [rest] else ls).take n = ls.take n := by
      split
      · rfl
      · split
        · rw [List.take_append_of_le_length h1]
        · rfl
    have e3 : n ≤ (if fl = true then ls else if ended = true ∧ rest ≠ [] then ls ++ [rest] else ls).length ∨ (fl = false ∧ ended = true) := .inl e1
    rw [e2, flat_join, if_pos e3]
  · rw [if_neg h1]
    dsimp only
    rw [if_neg (by simp)]
    cases fl with
    | true =>
      rw [if_pos rfl]
      dsimp only
      rw [if_pos rfl, if_neg (by simp; omega), if_pos rfl, flat_join, List.take_of_length_le (by omega)]
    | false =>
      rw [if_neg (by simp)]
      dsimp only
      cases ended with
      | true =>
        rw [if_pos rfl]
        by_cases hr : rest = []
        · subst hr
          simp [bmL, flat_join, List.take_of_length_le (show ls.length ≤ n by omega)]
        · have : (ls ++ [rest]).take n = ls ++ [rest] := List.take_of_length_le (by simp; omega)
          simp [bmL, hr, headF, flat_join, this, joinM]
      | false =>
        rw [if_neg (by simp)]
        simp [flat_join, List.take_of_length_le (show ls.length ≤ n by omega)]
        omega

/-- A machine that goes on whatever comes. -/
theorem eachs_on {τ : Type} (f : Each τ) (t : τ) (g : List UInt8 → List (List UInt8)) (h : ∀ l, f t l = (t, g l, false)) : ∀ ls, eachs f t ls = (t, ls.flatMap g, false)
  | [] => rfl
  | l :: ls => by
    rw [eachs, h l]
    dsimp only
    rw [if_neg (by simp), eachs_on f t g h ls]
    simp
theorem on_says {τ : Type} (f : Each τ) (t : τ) (g : List UInt8 → List (List UInt8)) (h : ∀ l, f t l = (t, g l, false)) (b : List UInt8) (ended : Bool) : (bmL f).says ([], t) b ended =
    (((rlines b ended).flatMap g).flatten, if rlong b = true then (-1, 20) else if ended = true then (-1, 0) else (0, 0)) := by
  unfold BM.says
  rw [run_lines]
  unfold rlines rlong
  generalize cutM b [] [] = k
  obtain ⟨ls, rest, fl⟩ := k
  dsimp only
  rw [eachs_on f t g h ls]
  dsimp only
  rw [if_neg (by simp)]
  cases fl with
  | true => simp
  | false =>
    cases ended with
    | true =>
      by_cases hr : rest = []
      · simp [bmL, hr]
      · simp [bmL, hr, h]
    | false => simp
end Go.Proofs.YtjnebkoohimgjaaDoor

/- The last lines, and bytes that become others: plain. -/
namespace Go.Proofs.YtjnebkoohimgjaaDoor

theorem run_step {β : Type} (B C : BM β) (h : B.step = C.step) : ∀ (b : List UInt8) (x : β), B.run x b = C.run x b
  | [], x => rfl
  | c :: b, x => by
    rw [BM.run, BM.run, h]
    rcases C.step x c with ⟨o, y | e⟩
    · dsimp only; rw [run_step B C h b y]
    · rfl
/-- With more of its input. -/
theorem says_grow {β : Type} (B : BM β) (x : β) (b c : List UInt8) (e : Bool) :
    (∃ s, (B.says x (b ++ c) e).1 = (B.says x b false).1 ++ s) ∧ ((B.says x b false).2.1 = -1 → B.says x (b ++ c) e = B.says x b false) := by
  have hr := B.run_app b c x
  unfold BM.says
  rw [hr]
  rcases h : (B.run x b).2 with y | e'
  · dsimp only
    refine ⟨?_, fun h => by simp at h⟩
    rcases (B.run y c).2 with z | e'
    · dsimp only
      cases e
      · exact ⟨_, rfl⟩
      · exact ⟨(B.run y c).1 ++ B.fin z, by simp⟩
    · exact ⟨_, rfl⟩
  · dsimp only
    exact ⟨⟨[], by simp⟩, fun _ => rfl⟩

/-! The last lines. -/
def pushT (n : Nat) (kept : List (List UInt8)) (s : List UInt8) : List (List UInt8) := if n < (kept ++ [s]).length then (kept ++ [s]).drop 1 else kept ++ [s]
def tailF (n : Nat) : Each (List (List UInt8)) := fun kept s => (pushT n kept s, [], false)
structure TS where
  cs : List UInt8
  failed : Bool
  over : Bool
  more : Bool
  kept : List (List UInt8)
def weight (l : List (List UInt8)) : Nat := (l.map List.length).sum
def keptT (n : Nat) (s : TS) : List (List UInt8) := if s.cs = [] then s.kept else pushT n s.kept s.cs
def feedT (n : Nat) (s : TS) (c : List UInt8) : TS × List (List UInt8) × Int :=
  let k := cutM c s.cs []
  let r := (eachs (tailF n) s.kept k.1).1
  if k.2.2 then (⟨[], true, true, s.more, r⟩, [], 20) else (⟨k.2.1, false, false, s.more, r⟩, [], 0)
def restT (s : TS) : TS := { s with more := decide (s.kept ≠ []), over := s.over || decide (s.kept = []) }
def finT (n : Nat) (s : TS) : TS × List (List UInt8) × Int := (restT { s with cs := [], kept := keptT n s }, [], 0)
def moreT (s : TS) : TS × List (List UInt8) × Int := (restT { s with kept := s.kept.drop 1 }, [s.kept.headD [] ++ [10]], 0)
def modT (n : Nat) : Mod TS where
  need s := if s.over then -1 else if s.more then -2 else 0
  held s := (s.cs.length + weight s.kept : Nat)
  feed := feedT n
  fin := finT n
  more := moreT
def bmT (n : Nat) : BM (List UInt8 × List (List UInt8)) where
  step := (bmL (tailF n)).step
  fin x := joinM (if x.1 = [] then x.2 else pushT n x.2 x.1)
def OkT (n : Nat) (l : List (List UInt8)) : Prop := l.length ≤ n ∧ ∀ x ∈ l, x.length ≤ 64
def RepT (n : Nat) (s : TS) : St (List UInt8 × List (List UInt8)) → Prop
  | .live x => s.over = false ∧ s.more = false ∧ s.failed = false ∧ s.cs = x.1 ∧ s.kept = x.2 ∧ s.cs.length ≤ 64 ∧ OkT n s.kept
  | .flush r => s.over = false ∧ s.more = true ∧ s.kept.map (· ++ [10]) = r ∧ s.kept ≠ [] ∧ s.cs.length ≤ 64 ∧ OkT n s.kept
  | .done => s.over = true ∧ s.cs.length ≤ 64 ∧ OkT n s.kept

theorem weight_le (n : Nat) : ∀ l : List (List UInt8), OkT n l → weight l ≤ 64 * n := by
  intro l h
  have : ∀ l : List (List UInt8), (∀ x ∈ l, x.length ≤ 64) → weight l ≤ 64 * l.length := by
    intro l
    induction l with
    | nil => intro _; simp [weight]
    | cons a l ih =>
      intro h
      have h1 := h a (by simp)
      have h2 := ih (fun x hx => h x (by simp [hx]))
      simp [weight] at h2 ⊢
      omega
  have h1 := this l h.2
  have h2 := h.1
  have : 64 * l.length ≤ 64 * n := Nat.mul_le_mul_left _ h2
  omega
theorem pushT_ok (n : Nat) (l : List (List UInt8)) (s : List UInt8) (h : OkT n l) (hs : s.length ≤ 64) : OkT n (pushT n l s) := by
  have h1 := h.1
  unfold pushT
  have h2 : ∀ x ∈ l ++ [s], x.length ≤ 64 := by
    intro x hx
    rcases List.mem_append.1 hx with hx | hx
    · exact h.2 x hx
    · simp at hx; subst hx; exact hs
  split
  · refine ⟨?_, fun x hx => h2 x (List.mem_of_mem_drop hx)⟩
    simp; omega
  · rename_i hn
    exact ⟨by omega, h2⟩
theorem cutM_short : ∀ (b cs : List UInt8) (acc : List (List UInt8)), cs.length ≤ 64 → (∀ l ∈ acc, l.length ≤ 64) → ∀ l ∈ (cutM b cs acc).1, l.length ≤ 64
  | [], cs, acc, _, h => by simpa [cutM] using h
  | x :: xs, cs, acc, hc, h => by
    rw [cutM]
    split
    · refine cutM_short xs [] _ (by simp) ?_
      intro l hl
      rcases List.mem_append.1 hl with hl | hl
      · exact h l hl
      · simp at hl; subst hl; exact hc
    · split
      · exact h
      · exact cutM_short xs (cs ++ [x]) acc (by simp; omega) h
theorem eachs_tail (n : Nat) : ∀ (ls : List (List UInt8)) (t : List (List UInt8)), eachs (tailF n) t ls = (ls.foldl (pushT n) t, [], false)
  | [], t => rfl
  | l :: ls, t => by
    rw [eachs]
    rw [if_neg (by simp [tailF])]
    show ((eachs (tailF n) (pushT n t l) ls).1, [] ++ (eachs (tailF n) (pushT n t l) ls).2.1, (eachs (tailF n) (pushT n t l) ls).2.2) = _
    rw [eachs_tail n ls]
    rfl
theorem fold_ok (n : Nat) : ∀ (ls t : List (List UInt8)), OkT n t → (∀ l ∈ ls, l.length ≤ 64) → OkT n (ls.foldl (pushT n) t)
  | [], _, h, _ => h
  | l :: ls, t, h, hl => fold_ok n ls (pushT n t l) (pushT_ok n t l h (hl l (by simp))) (fun x hx => hl x (by simp [hx]))

theorem stands_tail (n : Nat) (hn : n ≤ 4000) : Stands (modT n) (bmT n) (64 + 64 * n) (RepT n) where
  live s x h := by simp [modT, h.1, h.2.1]
  flush s r h := by
    obtain ⟨a1, a2, a3, a4, _⟩ := h
    refine ⟨by simp [modT, a1, a2], ?_⟩
    rw [← a3]
    simpa using a4
  done s h := by simp [modT, h.1]
  held s t h := by
    have : s.cs.length ≤ 64 ∧ OkT n s.kept := by
      cases t with
      | live x => exact ⟨h.2.2.2.2.2.1, h.2.2.2.2.2.2⟩
      | flush r => exact ⟨h.2.2.2.2.1, h.2.2.2.2.2⟩
      | done => exact h.2
    have h2 := weight_le n s.kept this.2
    have h1 := this.1
    simp only [modT]
    omega
  feed s x c h h1 h2 := by
    obtain ⟨x1, x2⟩ := x
    obtain ⟨a1, a2, a3, a4, a5, a6, a7⟩ := h
    dsimp only at a4 a5
    subst a4; subst a5
    have hr : (bmT n).run (s.cs, s.kept) c = _ := (run_step (bmT n) (bmL (tailF n)) rfl c (s.cs, s.kept)).trans (run_lines (tailF n) c s.cs s.kept)
    have hb := cutM_begun c s.cs [] a6
    have hs := cutM_short c s.cs [] a6 (by simp)
    have hk := fold_ok n (cutM c s.cs []).1 s.kept a7 hs
    show (feedT n s c).2.1.flatten = _ ∧ _
    unfold modT feedT
    dsimp only
    rw [hr, eachs_tail]
    dsimp only
    rw [if_neg (show ¬ (false = true) by simp)]
    by_cases e2 : (cutM c s.cs []).2.2
    · rw [if_pos e2, if_pos e2]
      refine ⟨rfl, fun y hy => ?_, fun e he => ?_⟩
      · cases hy
      · injection he with he; subst he; exact ⟨rfl, rfl, by simp, hk⟩
    · rw [if_neg e2, if_neg e2]
      refine ⟨rfl, fun y hy => ?_, fun e he => ?_⟩
      · injection hy with hy; subst hy; exact ⟨rfl, rfl, a2, rfl, rfl, rfl, hb, hk⟩
      · cases he
  fin s x h := by
    obtain ⟨x1, x2⟩ := x
    obtain ⟨a1, a2, a3, a4, a5, a6, a7⟩ := h
    dsimp only at a4 a5
    subst a4; subst a5
    have hk : OkT n (keptT n s) := by
      unfold keptT; split
      · exact a7
      · exact pushT_ok n _ _ a7 a6
    refine ⟨rfl, ?_⟩
    show (∃ r, r.length ≤ 5000 ∧ [] ++ r.flatten = joinM (keptT n s) ∧ RepT n (restT { s with cs := [], kept := keptT n s }) (.flush r)) ∨ ([] = joinM (keptT n s) ∧ RepT n (restT { s with cs := [], kept := keptT n s }) .done)
    by_cases e : keptT n s = []
    · right
      rw [e]
      exact ⟨rfl, by simp [restT], by simp [restT], by simp [restT, OkT]⟩
    · left
      refine ⟨(keptT n s).map (· ++ [10]), ?_, ?_, ?_, ?_, rfl, e, by simp [restT], hk⟩
      · have := hk.1; simp; omega
      · rw [List.nil_append, flat_join]
      · simp [restT, a1, e]
      · simp [restT, e]
  more s p r h := by
    obtain ⟨a1, a2, a3, a4, a5, a6⟩ := h
    obtain ⟨q, l, hl⟩ : ∃ q l, s.kept = q :: l := by
      cases hk : s.kept with
      | nil => exact absurd hk a4
      | cons q l => exact ⟨q, l, rfl⟩
    rw [hl] at a3
    simp only [List.map_cons, List.cons.injEq] at a3
    obtain ⟨rfl, rfl⟩ := a3
    have hk : OkT n l := by
      rw [hl] at a6
      exact ⟨by have := a6.1; simp at this; omega, fun x hx => a6.2 x (by simp [hx])⟩
    refine ⟨rfl, by simp [modT, moreT, hl], ?_⟩
    show RepT n (restT { s with kept := s.kept.drop 1 }) _
    rw [hl]
    by_cases e : l = []
    · subst e
      rw [if_pos (show List.map (fun x : List UInt8 => x ++ [10]) [] = [] from rfl)]
      exact ⟨by simp [restT], a5, hk⟩
    · rw [if_neg (by simpa using e)]
      exact ⟨by simp [restT, a1, e], by simp [restT, e], rfl, by simpa [restT] using e, a5, hk⟩

/-- The last n. -/
def lastN (n : Nat) (l : List (List UInt8)) : List (List UInt8) := l.drop (l.length - n)
theorem push_last (n : Nat) (l : List (List UInt8)) (s : List UInt8) : pushT n (lastN n l) s = lastN n (l ++ [s]) := by
  unfold pushT lastN
  have h1 : (l.drop (l.length - n) ++ [s]).length = min l.length n + 1 := by simp; omega
  rw [h1]
  by_cases h : n < min l.length n + 1
  · rw [if_pos h]
    have h2 : n ≤ l.length := by omega
    have e : l.drop (l.length - n) ++ [s] = (l ++ [s]).drop (l.length - n) := by rw [List.drop_append_of_le_length (by omega)]
    rw [e, List.drop_drop]
    congr 1
    simp; omega
  · rw [if_neg h]
    have h2 : l.length < n := by omega
    have e1 : l.length - n = 0 := by omega
    have e2 : (l ++ [s]).length - n = 0 := by simp; omega
    rw [e1, e2]; rfl
theorem fold_last (n : Nat) : ∀ (ls l : List (List UInt8)), ls.foldl (pushT n) (lastN n l) = lastN n (l ++ ls)
  | [], l => by simp
  | x :: ls, l => by
    rw [List.foldl_cons, push_last, fold_last n ls (l ++ [x])]
    simp
theorem tail_says (b : List UInt8) (ended : Bool) (n : Nat) : (bmT n).says ([], []) b ended =
    (if rlong b = false ∧ ended = true then joinM (lastN n (rlines b ended)) else [], if rlong b = true then (-1, 20) else if ended = true then (-1, 0) else (0, 0)) := by
  have hr : (bmT n).run ([], []) b = _ := (run_step (bmT n) (bmL (tailF n)) rfl b ([], [])).trans (run_lines (tailF n) b [] [])
  unfold BM.says
  rw [hr, eachs_tail]
  have hf := fold_last n (cutM b [] []).1 []
  have h0 : lastN n [] = [] := by simp [lastN]
  rw [h0, List.nil_append] at hf
  dsimp only
  rw [hf]
  unfold rlines rlong
  generalize cutM b [] [] = k
  obtain ⟨ls, rest, fl⟩ := k
  dsimp only
  rw [if_neg (by simp)]
  cases fl with
  | true => simp
  | false =>
    cases ended with
    | true =>
      by_cases hrest : rest = []
      · simp [bmT, hrest]
      · simp [bmT, hrest, push_last]
    | false => simp

/-! Bytes that become others. -/
structure US where
  over : Bool
def outU (g : UInt8 → List UInt8) (c : List UInt8) : List (List UInt8) := if c.flatMap g = [] then [] else [c.flatMap g]
def modU (g : UInt8 → List UInt8) : Mod US where
  need s := if s.over then -1 else 0
  held _ := 0
  feed s c := (s, outU g c, 0)
  fin _ := (⟨true⟩, [], 0)
  more s := (s, [], 4)
def bmU (g : UInt8 → List UInt8) : BM Unit where
  step _ c := (g c, .inl ())
  fin _ := []
def RepU (s : US) : St Unit → Prop
  | .live _ => s.over = false
  | .flush _ => False
  | .done => s.over = true
theorem run_turn (g : UInt8 → List UInt8) : ∀ c : List UInt8, (bmU g).run () c = (c.flatMap g, .inl ())
  | [] => rfl
  | x :: c => by
    rw [BM.run]
    show (g x ++ ((bmU g).run () c).1, ((bmU g).run () c).2) = _
    rw [run_turn g c]; rfl
theorem stands_turn (g : UInt8 → List UInt8) : Stands (modU g) (bmU g) 0 RepU where
  live s x h := by simp [modU, show s.over = false from h]
  flush s r h := h.elim
  done s h := by simp [modU, show s.over = true from h]
  held s t h := by simp [modU]
  feed s x c h h1 h2 := by
    rw [show (bmU g).run x c = _ from run_turn g c]
    refine ⟨?_, fun y _ => ⟨rfl, h⟩, fun e he => by cases he⟩
    show (outU g c).flatten = c.flatMap g
    unfold outU
    split
    · rename_i e; rw [e]; rfl
    · simp
  fin s x h := ⟨rfl, .inr ⟨rfl, rfl⟩⟩
  more s p r h := h.elim
theorem turn_says (g : UInt8 → List UInt8) (b : List UInt8) (ended : Bool) : (bmU g).says () b ended = (b.flatMap g, if ended = true then (-1, 0) else (0, 0)) := by
  unfold BM.says
  rw [run_turn g b]
  cases ended <;> simp [bmU]
end Go.Proofs.YtjnebkoohimgjaaDoor

/- What comes out of machines of lines: how much, and that no piece is empty. Plain. -/
namespace Go.Proofs.YtjnebkoohimgjaaDoor

theorem cutM_weight : ∀ (c cs : List UInt8) (acc : List (List UInt8)), (joinM (cutM c cs acc).1).length + (cutM c cs acc).2.1.length ≤ (joinM acc).length + cs.length + c.length
  | [], cs, acc => by simp [cutM]
  | x :: xs, cs, acc => by
    rw [cutM]
    split
    · have := cutM_weight xs [] (acc ++ [cs])
      have e : (joinM (acc ++ [cs])).length = (joinM acc).length + cs.length + 1 := by simp [joinM]; omega
      simp at this ⊢; omega
    · split
      · simp; omega
      · have := cutM_weight xs (cs ++ [x]) acc
        simp at this ⊢; omega
section
variable {τ : Type} (f : Each τ)
theorem eachs_weight (hf : ∀ t l, (f t l).2.1.flatten.length ≤ l.length + 1) : ∀ (ls : List (List UInt8)) (t : τ), (eachs f t ls).2.1.flatten.length ≤ (joinM ls).length
  | [], t => by simp [eachs]
  | l :: ls, t => by
    have h1 := hf t l
    have h2 := eachs_weight hf ls (f t l).1
    have e : (joinM (l :: ls)).length = l.length + 1 + (joinM ls).length := by simp [joinM]; omega
    rw [eachs]
    split
    · dsimp only; omega
    · dsimp only; simp only [List.flatten_append, List.length_append]; omega
theorem eachs_full (hf : ∀ t l, ∀ p ∈ (f t l).2.1, p ≠ []) : ∀ (ls : List (List UInt8)) (t : τ), ∀ p ∈ (eachs f t ls).2.1, p ≠ []
  | [], t => by simp [eachs]
  | l :: ls, t => by
    rw [eachs]
    split
    · exact hf t l
    · intro p hp
      rcases List.mem_append.1 hp with hp | hp
      · exact hf t l p hp
      · exact eachs_full hf ls _ p hp
/-- An answer may be: no piece is empty, and all together have 1024 bytes at most. -/
def OutOk (l : List (List UInt8)) : Prop := (∀ p ∈ l, p ≠ []) ∧ l.flatten.length ≤ 1024
theorem feedL_ok (hf : ∀ t l, ∀ p ∈ (f t l).2.1, p ≠ []) (hw : ∀ t l, (f t l).2.1.flatten.length ≤ l.length + 1) (s : LS τ) (c : List UInt8) (hs : s.cs.length ≤ 64) (hc : c.length ≤ 32) : OutOk (feedL f s c).2.1 := by
  have h1 := eachs_full f hf (cutM c s.cs []).1 s.t
  have h2 := eachs_weight f hw (cutM c s.cs []).1 s.t
  have h3 := cutM_weight c s.cs []
  simp [joinM] at h3
  have h4 : (joinM (cutM c s.cs []).1).length ≤ 96 := by simp [joinM]; omega
  unfold feedL
  dsimp only
  split
  · exact ⟨h1, by dsimp only; omega⟩
  · split
    · exact ⟨h1, by dsimp only; omega⟩
    · exact ⟨h1, by dsimp only; omega⟩
theorem finL_ok (hf : ∀ t l, ∀ p ∈ (f t l).2.1, p ≠ []) (hw : ∀ t l, (f t l).2.1.flatten.length ≤ l.length + 1) (s : LS τ) (hs : s.cs.length ≤ 64) : OutOk (finL f s).2.1 := by
  have := hw s.t s.cs
  unfold finL
  split
  · exact ⟨by simp, by simp⟩
  · exact ⟨hf _ _, by dsimp only; omega⟩
end
end Go.Proofs.YtjnebkoohimgjaaDoor
