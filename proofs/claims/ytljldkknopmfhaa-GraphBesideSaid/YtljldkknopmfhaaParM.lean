/- Parameters: the plain law. What the program says of them, and what the document's answer says, are the same. Nothing of the program stands here. -/
import Derived.Test.YtljldkknopmfhaaBase
namespace Go.Proofs.Ytljldkknopmfhaa

structure Rl where
  least : Int
  most : Int
  a : Int
  ins : Int
  outs : Int
  holds : Int
  each : Int
deriving Inhabited
def rl0 : Rl := ⟨0, 0, 0, 0, 0, 0, 0⟩
def Rl.cells (r : Rl) : List Value := [.int .i64 r.least, .int .i64 r.most, .int .i64 r.a, .int .i64 r.ins, .int .i64 r.outs, .int .i64 r.holds, .int .i64 r.each]
def ruleT : List Rl :=
  [rl0, ⟨0, 15, 0, 0, 1, 0, 0⟩, ⟨0, 15, 0, 1, 0, 0, 0⟩, ⟨0, 1000000000, 0, 1, 1, 64, 0⟩, ⟨0, 9223372036854775807, 0, 1, 1, 64, 64⟩,
   ⟨0, 1, 1, 1, 1, 64, 0⟩, ⟨0, 0, 2, 1, 1, 0, 0⟩, ⟨1, 65535, 3, 1, 1, 64, 0⟩, ⟨0, 1, 0, 1, 1, 128, 0⟩, ⟨0, 0, 0, 1, 1, 0, 0⟩, ⟨0, 1000000000, 0, 1, 1, 64, 0⟩,
   ⟨0, 1, 0, 1, 1, 320, 0⟩, ⟨1, 4, 0, -1, 1, 0, 0⟩, ⟨1, 4, 3, -1, 1, 0, 96⟩, ⟨1, 9223372036854775807, 3, 2, 1, 192, 128⟩, ⟨1, 4, 0, 1, -1, 0, 0⟩, ⟨1, 4, 0, 1, -1, 64, 0⟩]
def rl (k : Int) : Rl := ruleT.getD k.toNat rl0

/-- Are A and B as a rule says? -/
def bytesM (a : Int) (A B : List UInt8) : Bool :=
  if a = 1 then decide (1 ≤ A.length ∧ A.length ≤ 16 ∧ 10 ∉ A ∧ B.length = 0)
  else if a = 2 then decide (1 ≤ A.length ∧ A.length ≤ 64 ∧ A.Nodup ∧ B.length ≤ A.length)
  else if a = 3 then decide (A.length = 1 ∧ A.getD 0 0 ≠ 10 ∧ B.length = 0)
  else decide (A.length = 0 ∧ B.length = 0)
/-- The rule of parameters that may be; the error. -/
def ofM (k n : Int) (A B : List UInt8) : Rl × Int :=
  if k < 1 ∨ 16 < k then (rl0, 10)
  else if n < (rl k).least ∨ (rl k).most < n ∨ bytesM (rl k).a A B = false then (rl0, 11)
  else if 0 < (rl k).each ∧ (2048 - (rl k).holds) / (rl k).each < n then (rl0, 12)
  else (rl k, 0)
def chkM (k n : Int) (A B : List UInt8) : Int := (ofM k n A B).2
def insM (k n : Int) (A B : List UInt8) : Int := if (ofM k n A B).1.ins = -1 then n else (ofM k n A B).1.ins
def outsM (k n : Int) (A B : List UInt8) : Int := if (ofM k n A B).1.outs = -1 then n else (ofM k n A B).1.outs
def bndM (k n : Int) (A B : List UInt8) : Int := if chkM k n A B = 0 then (ofM k n A B).1.holds + (ofM k n A B).1.each * n else 0

def withinB (n a b : Int) : Bool := decide (a ≤ n ∧ n ≤ b)
def hasB (A : List UInt8) (x : UInt8) : Bool := decide (x ∈ A)
def unlikeB (A : List UInt8) : Bool := decide A.Nodup
def oneB (A : List UInt8) : Bool := decide (A.length = 1 ∧ A.getD 0 0 ≠ 10)
/-- The document's: are N, A and B as the kind's row says? -/
def rowR (k n : Int) (A B : List UInt8) : Bool :=
  if k = 1 ∨ k = 2 then ((A.length : Int) == 0) && ((B.length : Int) == 0) && withinB n 0 15
  else if k = 3 ∨ k = 10 then ((A.length : Int) == 0) && ((B.length : Int) == 0) && withinB n 0 1000000000
  else if k = 4 then ((A.length : Int) == 0) && ((B.length : Int) == 0) && decide (0 ≤ n)
  else if k = 5 then ((B.length : Int) == 0) && withinB n 0 1 && withinB A.length 1 16 && !hasB A 10
  else if k = 6 then (n == 0) && withinB A.length 1 64 && unlikeB A && decide (B.length ≤ A.length)
  else if k = 7 then ((B.length : Int) == 0) && oneB A && withinB n 1 65535
  else if k = 8 ∨ k = 11 then ((A.length : Int) == 0) && ((B.length : Int) == 0) && withinB n 0 1
  else if k = 9 then ((A.length : Int) == 0) && ((B.length : Int) == 0) && (n == 0)
  else if k = 12 ∨ k = 15 ∨ k = 16 then ((A.length : Int) == 0) && ((B.length : Int) == 0) && withinB n 1 4
  else if k = 13 then ((B.length : Int) == 0) && oneB A && withinB n 1 4
  else if k = 14 then ((B.length : Int) == 0) && oneB A && decide (1 ≤ n)
  else false
def holdsR (k n : Int) : Int :=
  if (k = 4 ∨ k = 14) ∧ 100 < n then 10000
  else if k = 3 ∨ k = 5 ∨ k = 7 ∨ k = 10 ∨ k = 16 then 64
  else if k = 4 then 64 + 64 * n
  else if k = 8 then 128
  else if k = 11 then 320
  else if k = 13 then 96 * n
  else if k = 14 then 2 * (64 * n + 96)
  else 0
def chkR (k n : Int) (A B : List UInt8) : Int :=
  if k < 1 ∨ 16 < k then 10 else if rowR k n A B = false then 11 else if 2048 < holdsR k n then 12 else 0
def insR (k n : Int) (A B : List UInt8) : Int :=
  if chkR k n A B ≠ 0 then 0 else if k = 1 then 0 else if k = 2 then 1 else if k = 12 ∨ k = 13 then n else if k = 14 then 2 else 1
def outsR (k n : Int) (A B : List UInt8) : Int :=
  if chkR k n A B ≠ 0 then 0 else if k = 1 then 1 else if k = 2 then 0 else if k = 15 ∨ k = 16 then n else 1
def bndR (k n : Int) (A B : List UInt8) : Int := if chkR k n A B ≠ 0 then 0 else holdsR k n

theorem kinds (k : Int) (h : ¬ (k < 1 ∨ 16 < k)) : k = 1 ∨ k = 2 ∨ k = 3 ∨ k = 4 ∨ k = 5 ∨ k = 6 ∨ k = 7 ∨ k = 8 ∨ k = 9 ∨ k = 10 ∨ k = 11 ∨ k = 12 ∨ k = 13 ∨ k = 14 ∨ k = 15 ∨ k = 16 := by omega

theorem row_alike (k n : Int) (A B : List UInt8) (hn : n ≤ 9223372036854775807) (h : ¬ (k < 1 ∨ 16 < k)) :
    rowR k n A B = true ↔ (rl k).least ≤ n ∧ n ≤ (rl k).most ∧ bytesM (rl k).a A B = true := by
  rcases kinds k h with rfl | rfl | rfl | rfl | rfl | rfl | rfl | rfl | rfl | rfl | rfl | rfl | rfl | rfl | rfl | rfl <;>
    simp [rl, ruleT, bytesM, rowR, withinB, hasB, unlikeB, oneB] <;> grind
theorem holds_alike (k n : Int) (_A _B : List UInt8) (h : ¬ (k < 1 ∨ 16 < k)) (h1 : (rl k).least ≤ n) (h2 : n ≤ (rl k).most) :
    (2048 < holdsR k n ↔ 0 < (rl k).each ∧ (2048 - (rl k).holds) / (rl k).each < n) ∧ (¬ 2048 < holdsR k n → holdsR k n = (rl k).holds + (rl k).each * n) := by
  rcases kinds k h with rfl | rfl | rfl | rfl | rfl | rfl | rfl | rfl | rfl | rfl | rfl | rfl | rfl | rfl | rfl | rfl <;>
    simp [rl, ruleT] at h1 h2 ⊢ <;> simp [holdsR] <;> (try split) <;> (try omega)
theorem of_alike (k n : Int) (A B : List UInt8) (hn : n ≤ 9223372036854775807) :
    (ofM k n A B).2 = chkR k n A B ∧ (chkR k n A B = 0 → (ofM k n A B).1 = rl k ∧ holdsR k n = (rl k).holds + (rl k).each * n ∧ holdsR k n ≤ 2048) ∧ (chkR k n A B ≠ 0 → (ofM k n A B).1 = rl0) := by
  by_cases h : k < 1 ∨ 16 < k
  · simp [chkR, ofM, h]
  · have hr := row_alike k n A B hn h
    unfold ofM chkR
    rw [if_neg h, if_neg h]
    by_cases h1 : n < (rl k).least ∨ (rl k).most < n ∨ bytesM (rl k).a A B = false
    · have h2 : rowR k n A B = false := by
        cases hx : rowR k n A B with
        | false => rfl
        | true => exfalso; obtain ⟨a, b, c⟩ := hr.1 hx; rcases h1 with h1 | h1 | h1; omega; omega; rw [c] at h1; cases h1
      rw [if_pos h1, if_pos h2]
      simp
    · have h3 : (rl k).least ≤ n ∧ n ≤ (rl k).most ∧ bytesM (rl k).a A B = true := by
        refine ⟨Int.not_lt.1 fun x => h1 (.inl x), Int.not_lt.1 fun x => h1 (.inr (.inl x)), ?_⟩
        cases hx : bytesM (rl k).a A B with
        | true => rfl
        | false => exact absurd (.inr (.inr hx)) h1
      have h2 := hr.2 h3
      obtain ⟨e1, e2⟩ := holds_alike k n A B h h3.1 h3.2.1
      have hf : ¬ rowR k n A B = false := by rw [h2]; simp
      rw [if_neg h1, if_neg hf]
      by_cases h4 : 0 < (rl k).each ∧ (2048 - (rl k).holds) / (rl k).each < n
      · rw [if_pos h4, if_pos (e1.2 h4)]; simp
      · have h5 : ¬ 2048 < holdsR k n := fun x => h4 (e1.1 x)
        rw [if_neg h4, if_neg h5]
        exact ⟨rfl, fun _ => ⟨rfl, e2 h5, by omega⟩, fun x => absurd rfl x⟩
/-- What the program says is what the document says. -/
def Agree (k n : Int) (A B : List UInt8) : Prop := chkM k n A B = chkR k n A B ∧ insM k n A B = insR k n A B ∧ outsM k n A B = outsR k n A B ∧ bndM k n A B = bndR k n A B
theorem agree (k n : Int) (A B : List UInt8) (hn : n ≤ 9223372036854775807) : Agree k n A B := by
  obtain ⟨e1, e2, e3⟩ := of_alike k n A B hn
  unfold Agree chkM insM outsM bndM chkM insR outsR bndR
  by_cases h0 : chkR k n A B = 0
  · obtain ⟨r1, r2, r3⟩ := e2 h0
    have hk : ¬ (k < 1 ∨ 16 < k) := by
      intro h; unfold chkR at h0; rw [if_pos h] at h0; cases h0
    simp only [e1, r1, h0, ne_eq, not_true_eq_false, if_true, if_false]
    refine ⟨trivial, ?_, ?_, r2.symm⟩
    · clear e1 e2 e3 r1 r2 r3 h0
      rcases kinds k hk with rfl | rfl | rfl | rfl | rfl | rfl | rfl | rfl | rfl | rfl | rfl | rfl | rfl | rfl | rfl | rfl <;> simp [rl, ruleT]
    · clear e1 e2 e3 r1 r2 r3 h0
      rcases kinds k hk with rfl | rfl | rfl | rfl | rfl | rfl | rfl | rfl | rfl | rfl | rfl | rfl | rfl | rfl | rfl | rfl <;> simp [rl, ruleT]
  · simp [e1, e3 h0, h0, rl0]
end Go.Proofs.Ytljldkknopmfhaa
