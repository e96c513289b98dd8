/- The law's sign of life. -/
import Derived.Test.YtmjmaffbnejccaaLineJ
namespace Go.Proofs.Ytmjmaffbnejccaa
open Go.RowKit

theorem zero_spl (w : World) : (zeroValue 29).run Try.prog w = .ok (.agg splZero) w := by kernel_rfl
theorem splZero_size : splZero.size = 66 := by simp [splZero]
def TruePost (w : World) (e : Ending) (w' : World) : Prop := e = .returned (.bool true) ∧ Fr No w w'
set_option maxHeartbeats 1000000 in
set_option maxRecDepth 100000 in
theorem awake_any (w : World) : Calls Try.prog 9 #[] w (TruePost w) := by
  have hz := zero_spl
  have hs := splZero_size
  have hcs := conv_const (P := Try.prog) 31 5 Try.underlying31 Try.underlying5
  go_enter Try.func9, Try.ntmps9
  go_wp2_with fail
  have s1 := (spl_new w splZero 29 0 (by simp)).fr ((Fr.refl No _).alloc (.cells #[.int .u8 97, .int .u8 98, .int .u8 10, .int .u8 99, .int .u8 100] 5 (5, 6))) (fun _ _ x => x)
  have c1 := cut_any w.heap.size 0 (w.heap.size + 1) 0 5 [] [97, 98, 10, 99, 100] _ s1 (row_at (w.alloc (.cells splZero 29)) #[.int .u8 97, .int .u8 98, .int .u8 10, .int .u8 99, .int .u8 100] _ rfl (w.heap.size + 1) (by simp) 5 (5, 6) : Row _ _ _ ([97, 98, 10, 99, 100].map bv)).bts (by omega) (by simp)
  rw [show cutM [97, 98, 10, 99, 100] [] [] = ([[97, 98]], [99, 100], false) from rfl] at c1
  refine c1.mono ?_
  rintro e w1 ⟨v1, rfl, hown1, hspl1, hfr1⟩
  obtain ⟨a1, cap1, rfl, ha1, hb1⟩ := at_of_own hown1
  obtain ⟨g1, o1, rfl, hr1⟩ := ha1 (by simp)
  have hg1 := hb1 g1 o1 rfl
  have hz1 := hfr1.size
  simp at hg1 hz1
  clear c1 s1 hown1 hb1 ha1
  dsimp only at *
  go_wp2_with fail
  refine (begun_any _ _ _ _ hspl1.n).mono ?_
  rintro e w' ⟨rfl, rfl⟩
  go_wp2_with fail
  have s2 := hspl1.fr ((Fr.refl No _).alloc (.cells #[.int .u8 10, .int .u8 10, .int .u8 101] 5 (3, 4))) (fun _ _ x => x)
  have c2 := cut_any w.heap.size 0 w1.heap.size 0 3 [99, 100] [10, 10, 101] _ s2 (row_at w1 #[.int .u8 10, .int .u8 10, .int .u8 101] _ rfl _ rfl 5 (3, 4) : Row _ _ _ ([10, 10, 101].map bv)).bts (by omega) (by simp)
  rw [show cutM [10, 10, 101] [99, 100] [] = ([[99, 100], []], [101], false) from rfl] at c2
  refine c2.mono ?_
  rintro e w2 ⟨v2, rfl, hown2, hspl2, hfr2⟩
  obtain ⟨a2, cap2, rfl, ha2, hb2⟩ := at_of_own hown2
  obtain ⟨g2, o2, rfl, hr2⟩ := ha2 (by simp)
  have hg2 := hb2 g2 o2 rfl
  have hz2 := hfr2.size
  simp at hg2 hz2
  clear c2 s2 hown2 hb2 ha2
  dsimp only at *
  have hlt1 := hr1.lt (by simp)
  have hr1' := (hr1.fr ((Fr.refl No _).alloc (.cells #[.int .u8 10, .int .u8 10, .int .u8 101] 5 (3, 4))) (fun _ _ x => x)).fr hfr2 (fun _ _ x => by have := x.1; omega)
  go_wp2_with fail
  refine (rest_calls _ _ _ _ _ hspl2).mono ?_
  rintro e w3 ⟨rfl, hspl3, hfr3⟩
  have hr1 := hr1'.fr hfr3 (fun _ _ x => by have := x.1; omega)
  have hr2' := hr2.fr hfr3 (fun _ _ x => by have := x.1; omega)
  clear hr1' hr2
  go_wp2_with fail
  refine (rest_calls _ _ _ _ _ hspl3).mono ?_
  rintro e w4 ⟨rfl, hspl4, hfr4⟩
  have r1 := (hr1.fr hfr4 (fun _ _ x => by have := x.1; omega)).get 0 _ rfl
  have r2 := (hr2'.fr hfr4 (fun _ _ x => by have := x.1; omega)).get 0 _ rfl
  have r3 := (hr2'.fr hfr4 (fun _ _ x => by have := x.1; omega)).get 1 _ rfl
  simp only [Nat.add_zero] at r1 r2 r3
  go_wp2_with fail
  have c3 := join_any (some ⟨w4.heap.size, 0, none⟩) 3 [[97], [], [98]] _ (fun _ => ⟨_, _, rfl, row_at w4 #[.string ⟨#[97]⟩, .string ⟨#[]⟩, .string ⟨#[98]⟩] _ rfl _ rfl 9 (0, 0)⟩) (by simp [joinM]) (by simp)
  refine c3.mono ?_
  rintro e w5 ⟨v5, rfl, hown5, hfr5⟩
  rw [show joinM [[97], [], [98]] = [97, 10, 10, 98, 10] from rfl] at hown5
  obtain ⟨a5, cap5, rfl, ha5, _⟩ := at_of_own hown5
  have hcv := conv_at (P := Try.prog) (cap := cap5) ha5 (src := 31) (dst := 9) Try.underlying31 Try.underlying5 Try.underlying9
  simp only [List.length_cons, List.length_nil, Nat.zero_add, Nat.reduceAdd] at hcv
  dsimp only [List.length_cons, List.length_nil, Nat.zero_add, Nat.reduceAdd]
  go_wp2
  go_ret
  refine ⟨rfl, ?_⟩
  have e0 : Fr No w ((w.alloc (.cells splZero 29)).alloc (.cells #[.int .u8 97, .int .u8 98, .int .u8 10, .int .u8 99, .int .u8 100] 5 (5, 6))) := ((Fr.refl No w).alloc _).alloc _
  have e1 := e0.step hfr1 (fun i o hi hT => by have := hT.1; omega)
  have e2 := (e1.alloc (.cells #[.int .u8 10, .int .u8 10, .int .u8 101] 5 (3, 4))).step hfr2 (fun i o hi hT => by have := hT.1; omega)
  have e3 := (e2.step hfr3 (fun i o hi hT => by have := hT.1; omega)).step hfr4 (fun i o hi hT => by have := hT.1; omega)
  exact (e3.alloc (.cells #[.string ⟨#[97]⟩, .string ⟨#[]⟩, .string ⟨#[98]⟩] 9)).step hfr5 (fun _ _ _ x => x)
end Go.Proofs.Ytmjmaffbnejccaa
