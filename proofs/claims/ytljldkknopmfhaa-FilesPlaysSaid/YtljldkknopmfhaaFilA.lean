/- A disk's own helpers: counts, at. -/
import Derived.Test.YtljldkknopmfhaaFilR
import Derived.Test.YtljldkknopmfhaaFlat
namespace Go.Proofs.Ytljldkknopmfhaa
open Go.RowKit Go.Maps Go

/-- The first place at which a script names a call; -1: none. -/
def hitAt : List (Int × Int) → Int → Nat → Int
  | [], _, _ => -1
  | f :: S, c, k => if f.1 = c then k else hitAt S c (k + 1)
theorem hitAt_skip : ∀ (S T : List (Int × Int)) (c : Int) (k : Nat), (∀ f ∈ S, f.1 ≠ c) → hitAt (S ++ T) c k = hitAt T c (k + S.length)
  | [], _, _, _, _ => rfl
  | f :: S, T, c, k, h => by
    have h0 := h f (List.mem_cons_self ..)
    rw [List.cons_append, hitAt, if_neg h0, hitAt_skip S T c (k + 1) fun x hx => h x (List.mem_cons_of_mem _ hx), List.length_cons]
    congr 1; omega
theorem hitAt_at {S : List (Int × Int)} {c : Int} {k : Nat} (hk : k < S.length) (h : (S[k]).1 = c) (hn : ∀ f ∈ S.take k, f.1 ≠ c) : hitAt S c 0 = k := by
  have e : S = S.take k ++ S.drop k := (List.take_append_drop k S).symm
  rw [e, hitAt_skip _ _ _ _ hn, List.drop_eq_getElem_cons hk, hitAt, if_pos h, List.length_take]
  omega
theorem hitAt_none {S : List (Int × Int)} {c : Int} (hn : ∀ f ∈ S, f.1 ≠ c) : hitAt S c 0 = -1 := by
  have := hitAt_skip S [] c 0 hn
  rwa [List.append_nil] at this
theorem hit_cases (S : List (Int × Int)) (c : Nat) : (hitM S c = none ∧ hitAt S c 0 = -1) ∨ ∃ (k : Nat) (h : k < S.length), hitM S c = some (S[k]).2 ∧ hitAt S c 0 = k := by
  suffices H : ∀ (T : List (Int × Int)) (j : Nat), (hitM T c = none ∧ hitAt T c j = -1) ∨ ∃ (k : Nat) (h : k < T.length), hitM T c = some (T[k]).2 ∧ hitAt T c j = ((j + k : Nat) : Int) by
    rcases H S 0 with h | ⟨k, h, h1, h2⟩
    · exact .inl h
    · exact .inr ⟨k, h, h1, by rw [h2]; simp⟩
  intro T
  induction T with
  | nil => intro j; exact .inl ⟨rfl, rfl⟩
  | cons f T ih =>
    intro j
    by_cases hf : f.1 = c
    · exact .inr ⟨0, by simp, by simp [hitM, hf], by simp [hitAt, hf]⟩
    · rcases ih (j + 1) with ⟨h1, h2⟩ | ⟨k, h, h1, h2⟩
      · exact .inl ⟨by simp [hitM, hf, h1], by simp [hitAt, hf, h2]⟩
      · exact .inr ⟨k + 1, by simp; omega, by simp [hitM, hf, h1], by simp only [hitAt, if_neg hf, h2]; omega⟩

theorem scr_cell {w : World} {g off : Nat} {S : List (Int × Int)} (h : Row w g off (scr S)) {k : Nat} (hk : k < S.length) : w.cell? ⟨g, off + k * 2, none⟩ = some (.int .i64 (S[k]).1) ∧ w.cell? ⟨g, off + k * 2 + 1, none⟩ = some (.int .i64 (S[k]).2) := by
  obtain ⟨h1, h2⟩ := scr_get S k hk
  have e1 := h.get _ _ h1
  have e2 := h.get _ _ h2
  rw [Nat.mul_comm 2 k] at e1 e2
  exact ⟨e1, by rw [← Nat.add_assoc] at e2; exact e2⟩
/-- The closure that counts hands on. -/
def ClosPost (w : World) (b : Bool) (e : Ending) (w' : World) : Prop := e = .returned (.bool b) ∧ Fr No w w'
set_option maxRecDepth 100000 in
theorem clos_any (bx d : Nat) (x1 x2 c : Int) (w : World) (hb : w.cell? ⟨bx, 0, none⟩ = some (.pointer (some ⟨d, 0, none⟩))) (hd : w.cell? ⟨d, 3, none⟩ = some (.int .i64 c)) :
    Calls Try.prog 83 #[.agg #[.int .i64 x1, .int .i64 x2], .pointer (some ⟨bx, 0, none⟩)] w (ClosPost w (x1 == c)) := by
  have h1 := World.block_lt_of_cell? w _ hb
  have h2 := World.block_lt_of_cell? w _ hd
  have n1 : bx ≠ w.heap.size := by simp at h1; omega
  have n2 : d ≠ w.heap.size := by simp at h2; omega
  go_enter Try.func83, Try.ntmps83
  go_wp2_with fail
  go_quiet (fail)
  go_wp2
  go_ret
  exact ⟨rfl, ((Fr.refl _ _).alloc _).drewN _⟩
def IdxPost (w : World) (i : Int) (e : Ending) (w' : World) : Prop := e = .returned (.int .i64 i) ∧ Fr No w w'
set_option maxHeartbeats 1000000 in
set_option maxRecDepth 100000 in
theorem indexF_any (a : Option Addr) (c : Nat) (S : List (Int × Int)) (bx d : Nat) (cnt : Int) (w : World) (ha : At w a (scr S)) (hb : w.cell? ⟨bx, 0, none⟩ = some (.pointer (some ⟨d, 0, none⟩))) (hd : w.cell? ⟨d, 3, none⟩ = some (.int .i64 cnt)) (hl : S.length ≤ 100000) :
    Calls Try.prog 82 #[.slice a S.length c, .func (.func 83) #[] #[.pointer (some ⟨bx, 0, none⟩)]] w (IdxPost w (hitAt S cnt 0)) := by
  have hlt1 := World.block_lt_of_cell? w _ hb
  have hlt2 := World.block_lt_of_cell? w _ hd
  have HC := Lib.hid (fun (W : World) (f : Fr No w W) (x : Int × Int) => clos_any bx d x.1 x.2 cnt W ((f.at.1 bx 0 hlt1).trans hb) ((f.at.1 d 3 hlt2).trans hd))
  have HA := Lib.hid ha
  clear ha hb hd
  go_enter Try.func82, Try.ntmps82
  go_wp2
  go_loopw [8] (fun i wr => ∃ k : Nat, k ≤ S.length ∧ i = .int .i64 k ∧ Hid (Fr No w wr) ∧ Hid (∀ f ∈ S.take k, f.1 ≠ cnt)) (fun i _ => S.length - (intOf i).toNat)
  case atStart => exact ⟨0, Nat.zero_le _, rfl, Lib.hid (Fr.refl _ _), Lib.hid (by simp)⟩
  case round =>
    obtain ⟨k, hk, rfl, HF, HN⟩ := hrel
    by_cases hlt : k < S.length
    · obtain ⟨g, off, rfl, hr⟩ := (HA.out.fr HF.out (fun _ _ _ _ _ _ x => x)) (by rw [scr_length]; omega)
      obtain ⟨c1, c2⟩ := scr_cell hr hlt
      have hki : (k : Int) < S.length := by omega
      have hcl := HC.out wr HF.out S[k]
      have hat := fun e => hitAt_at hlt e HN.out
      have hnx : S[k].1 ≠ cnt → ∀ f ∈ S.take (k + 1), f.1 ≠ cnt := by
        intro e f hf
        rw [List.take_succ_eq_append_getElem hlt] at hf
        rcases List.mem_append.1 hf with hf | hf
        · exact HN.out f hf
        · simp at hf; subst hf; exact e
      have HAT := Lib.hid hat; have HNX := Lib.hid hnx; have HCL := Lib.hid hcl
      clear hat hnx hcl hr
      generalize S[k] = x at *
      obtain ⟨x1, x2⟩ := x
      dsimp only at *
      by_cases hx : x1 = cnt
      · have HC2 := HCL.out
        rw [show (x1 == cnt) = true from by simpa using hx] at HC2
        have HC3 := Lib.hid HC2; clear HC2
        have HA0 := Lib.hid (HAT.out hx); clear hx HAT
        go_wp2_with (go_at_call 83; refine HC3.out.mono ?_; rintro e1 w1 ⟨rfl, hf1⟩)
        go_ret
        exact ⟨by rw [HA0.out]; rfl, HF.out.trans hf1⟩
      · have hxb : (x1 == cnt) = false := by simpa using hx
        have HC2 := HCL.out
        rw [hxb] at HC2
        have HC3 := Lib.hid HC2; clear HC2
        have HX := Lib.hid hx; clear hx
        go_wp2_with (go_at_call 83; refine HC3.out.mono ?_; rintro e1 w1 ⟨rfl, hf1⟩)
        go_roundw
        case rel => exact ⟨k + 1, by omega, by go_num, Lib.hid (HF.out.trans hf1), Lib.hid (HNX.out HX.out)⟩
        case measure => simp [intOf]; omega
    · obtain rfl : k = S.length := by omega
      have hn := HN.out
      rw [List.take_length] at hn
      have e := Lib.hid (hitAt_none hn)
      go_wp2
      go_ret
      exact ⟨by rw [e.out]; rfl, HF.out⟩
end Go.Proofs.Ytljldkknopmfhaa
