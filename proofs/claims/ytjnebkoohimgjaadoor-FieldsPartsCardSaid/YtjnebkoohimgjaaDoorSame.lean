/- The laws' Same: is what a machine did what the document says? (Where it has ended; where it has failed.) -/
import Derived.Test.YtjnebkoohimgjaaDoorRef
import Derived.Test.YtjnebkoohimgjaaDoorStrm
namespace Go.Proofs.YtjnebkoohimgjaaDoor
open Go.RowKit

def SamePost (w : World) (e : Ending) (w' : World) : Prop := e = .returned (.bool true) ∧ Fr No w w'
set_option maxHeartbeats 2000000 in
set_option maxRecDepth 100000 in
theorem same_ended (out : List UInt8) (held taken : Int) (ig ioff ci g off c : Nat) (sa : Option Addr) (sc : Nat) (ec es ei : Int) (w : World) (hw : Row w g off (strmC sa out sc true ec es ei)) (hs : At w sa (out.map bv)) :
    Calls Tryd.prog 22 #[.agg (gotC out (-1) 0 held taken), .slice (some ⟨ig, ioff, none⟩) 1 ci, .slice (some ⟨g, off, none⟩) 1 c] w (SamePost w) := by
  have hbox := (Fr.refl No w).alloc (.cells (gotC out (-1) 0 held taken) 45)
  have hrow1 := hw.fr hbox (fun _ _ x => x)
  have hcv := conv_at (P := Tryd.prog) (cap := sc) (at_no hs hbox) (src := 22) (dst := 9) Tryd.underlying22 Tryd.underlying5 Tryd.underlying9
  have i0 := hrow1.get 0 _ rfl
  have i1 := hrow1.get 1 _ rfl
  have i2 := hrow1.get 2 _ rfl
  have i3 := hrow1.get 3 _ rfl
  have i4 := hrow1.get 4 _ rfl
  rw [Nat.add_zero] at i0
  dsimp only [gotC] at *
  go_enter Tryd.func22, Tryd.ntmps22
  go_wp2
  go_loop [7] (fun i => ∃ k : Nat, k ≤ 4 ∧ i = .int .i64 k) (fun i => 4 - (intOf i).toNat)
  case atStart => exact ⟨0, by omega, rfl⟩
  case round =>
    obtain ⟨k, hk, rfl⟩ := hrel
    by_cases hlt : k < 4
    · have hc : k = 0 ∨ k = 1 ∨ k = 2 ∨ k = 3 := by omega
      rcases hc with rfl | rfl | rfl | rfl <;> (
        go_wp2
        go_round
        case rel => first | exact ⟨1, by omega, rfl⟩ | exact ⟨2, by omega, rfl⟩ | exact ⟨3, by omega, rfl⟩ | exact ⟨4, by omega, rfl⟩
        case measure => simp [intOf])
    · obtain rfl : k = 4 := by omega
      go_wp2
      go_loopw [9] (fun i wr => ∃ q : Nat, q ≤ 1 ∧ i = .int .i64 q ∧ Hid (Fr No (w.alloc (.cells (gotC out (-1) 0 held taken) 45)) wr)) (fun i _ => 1 - (intOf i).toNat)
      case atStart => exact ⟨0, by omega, rfl, Lib.hid (Fr.refl _ _)⟩
      case round =>
        obtain ⟨q, hq, rfl, HF⟩ := hrel
        have hrow2 := hrow1.fr HF.out (fun _ _ x => x)
        have j0 := hrow2.get 0 _ rfl
        have j1 := hrow2.get 1 _ rfl
        have j2 := hrow2.get 2 _ rfl
        have j3 := hrow2.get 3 _ rfl
        have j4 := hrow2.get 4 _ rfl
        rw [Nat.add_zero] at j0
        obtain ⟨b1, z1⟩ := box_at HF.out
        have b4 : wr.cell? ⟨w.heap.size, 4, none⟩ = some (.int .i64 (-1)) := b1 4
        have b5 : wr.cell? ⟨w.heap.size, 5, none⟩ = some (.int .i64 0) := b1 5
        clear b1
        have hqc : q = 0 ∨ q = 1 := by omega
        rcases hqc with rfl | rfl
        · go_wp2
          go_roundw
          case rel => exact ⟨1, by omega, rfl, Lib.hid (HF.out.alloc _)⟩
          case measure => simp [intOf]
        · go_wp2
          go_ret
          exact ⟨rfl, hbox.trans HF.out⟩
set_option maxHeartbeats 2000000 in
set_option maxRecDepth 100000 in
theorem same_failed (out : List UInt8) (held taken : Int) (ig ioff ci g off c : Nat) (sa : Option Addr) (sc : Nat) (es ei : Int) (w : World) (hw : Row w g off (strmC sa out sc false 20 es ei)) (hs : At w sa (out.map bv)) :
    Calls Tryd.prog 22 #[.agg (gotC out (-1) 20 held taken), .slice (some ⟨ig, ioff, none⟩) 1 ci, .slice (some ⟨g, off, none⟩) 1 c] w (SamePost w) := by
  have hbox := (Fr.refl No w).alloc (.cells (gotC out (-1) 20 held taken) 45)
  have hrow1 := hw.fr hbox (fun _ _ x => x)
  have hcv := conv_at (P := Tryd.prog) (cap := sc) (at_no hs hbox) (src := 22) (dst := 9) Tryd.underlying22 Tryd.underlying5 Tryd.underlying9
  have i0 := hrow1.get 0 _ rfl
  have i1 := hrow1.get 1 _ rfl
  have i2 := hrow1.get 2 _ rfl
  have i3 := hrow1.get 3 _ rfl
  have i4 := hrow1.get 4 _ rfl
  rw [Nat.add_zero] at i0
  dsimp only [gotC] at *
  go_enter Tryd.func22, Tryd.ntmps22
  go_wp2
  go_loop [7] (fun i => ∃ k : Nat, k ≤ 4 ∧ i = .int .i64 k) (fun i => 4 - (intOf i).toNat)
  case atStart => exact ⟨0, by omega, rfl⟩
  case round =>
    obtain ⟨k, hk, rfl⟩ := hrel
    by_cases hlt : k < 4
    · have hc : k = 0 ∨ k = 1 ∨ k = 2 ∨ k = 3 := by omega
      rcases hc with rfl | rfl | rfl | rfl <;> (
        go_wp2
        go_round
        case rel => first | exact ⟨1, by omega, rfl⟩ | exact ⟨2, by omega, rfl⟩ | exact ⟨3, by omega, rfl⟩ | exact ⟨4, by omega, rfl⟩
        case measure => simp [intOf])
    · obtain rfl : k = 4 := by omega
      go_wp2
      go_loopw [9] (fun i wr => ∃ q : Nat, q ≤ 1 ∧ i = .int .i64 q ∧ Hid (Fr No (w.alloc (.cells (gotC out (-1) 20 held taken) 45)) wr)) (fun i _ => 1 - (intOf i).toNat)
      case atStart => exact ⟨0, by omega, rfl, Lib.hid (Fr.refl _ _)⟩
      case round =>
        obtain ⟨q, hq, rfl, HF⟩ := hrel
        have hrow2 := hrow1.fr HF.out (fun _ _ x => x)
        have j0 := hrow2.get 0 _ rfl
        have j1 := hrow2.get 1 _ rfl
        have j2 := hrow2.get 2 _ rfl
        have j3 := hrow2.get 3 _ rfl
        have j4 := hrow2.get 4 _ rfl
        rw [Nat.add_zero] at j0
        obtain ⟨b1, z1⟩ := box_at HF.out
        have b4 : wr.cell? ⟨w.heap.size, 4, none⟩ = some (.int .i64 (-1)) := b1 4
        have b5 : wr.cell? ⟨w.heap.size, 5, none⟩ = some (.int .i64 20) := b1 5
        clear b1
        have hqc : q = 0 ∨ q = 1 := by omega
        rcases hqc with rfl | rfl
        · go_wp2
          go_roundw
          case rel => exact ⟨1, by omega, rfl, Lib.hid (HF.out.alloc _)⟩
          case measure => simp [intOf]
        · go_wp2
          go_ret
          exact ⟨rfl, hbox.trans HF.out⟩
set_option maxHeartbeats 2000000 in
set_option maxRecDepth 100000 in
theorem same_waits (out : List UInt8) (held taken : Int) (ig ioff ci g off c : Nat) (sa : Option Addr) (sc : Nat) (ec es ei : Int) (w : World) (hw : Row w g off (strmC sa out sc false ec es ei)) (hs : At w sa (out.map bv)) (ia : Option Addr) (ib : List UInt8) (ic : Nat) (hin : Row w ig ioff (strmC ia ib ic false ec es ei)) :
    Calls Tryd.prog 22 #[.agg (gotC out 0 0 held taken), .slice (some ⟨ig, ioff, none⟩) 1 ci, .slice (some ⟨g, off, none⟩) 1 c] w (SamePost w) := by
  have hbox := (Fr.refl No w).alloc (.cells (gotC out 0 0 held taken) 45)
  have hrow1 := hw.fr hbox (fun _ _ x => x)
  have hcv := conv_at (P := Tryd.prog) (cap := sc) (at_no hs hbox) (src := 22) (dst := 9) Tryd.underlying22 Tryd.underlying5 Tryd.underlying9
  have i0 := hrow1.get 0 _ rfl
  have i1 := hrow1.get 1 _ rfl
  have i2 := hrow1.get 2 _ rfl
  have i3 := hrow1.get 3 _ rfl
  have i4 := hrow1.get 4 _ rfl
  rw [Nat.add_zero] at i0
  dsimp only [gotC] at *
  go_enter Tryd.func22, Tryd.ntmps22
  go_wp2
  go_loop [7] (fun i => ∃ k : Nat, k ≤ 4 ∧ i = .int .i64 k) (fun i => 4 - (intOf i).toNat)
  case atStart => exact ⟨0, by omega, rfl⟩
  case round =>
    obtain ⟨k, hk, rfl⟩ := hrel
    by_cases hlt : k < 4
    · have hc : k = 0 ∨ k = 1 ∨ k = 2 ∨ k = 3 := by omega
      rcases hc with rfl | rfl | rfl | rfl <;> (
        go_wp2
        go_round
        case rel => first | exact ⟨1, by omega, rfl⟩ | exact ⟨2, by omega, rfl⟩ | exact ⟨3, by omega, rfl⟩ | exact ⟨4, by omega, rfl⟩
        case measure => simp [intOf])
    · obtain rfl : k = 4 := by omega
      go_wp2
      go_loopw [9] (fun i wr => ∃ q : Nat, q ≤ 1 ∧ i = .int .i64 q ∧ Hid (Fr No (w.alloc (.cells (gotC out 0 0 held taken) 45)) wr)) (fun i _ => 1 - (intOf i).toNat)
      case atStart => exact ⟨0, by omega, rfl, Lib.hid (Fr.refl _ _)⟩
      case round =>
        obtain ⟨q, hq, rfl, HF⟩ := hrel
        have hrow2 := hrow1.fr HF.out (fun _ _ x => x)
        have j0 := hrow2.get 0 _ rfl
        have j1 := hrow2.get 1 _ rfl
        have j2 := hrow2.get 2 _ rfl
        have j3 := hrow2.get 3 _ rfl
        have j4 := hrow2.get 4 _ rfl
        rw [Nat.add_zero] at j0
        have hrow3 := (hin.fr hbox (fun _ _ x => x)).fr HF.out (fun _ _ x => x)
        have k2 := hrow3.get 2 _ rfl
        have k3 := hrow3.get 3 _ rfl
        have k4 := hrow3.get 4 _ rfl
        have hil : ig < wr.heap.size := hrow3.lt (by simp [strmC])
        clear hrow3
        obtain ⟨b1, z1⟩ := box_at HF.out
        have b4 : wr.cell? ⟨w.heap.size, 4, none⟩ = some (.int .i64 0) := b1 4
        have b5 : wr.cell? ⟨w.heap.size, 5, none⟩ = some (.int .i64 0) := b1 5
        clear b1
        have hqc : q = 0 ∨ q = 1 := by omega
        rcases hqc with rfl | rfl
        · go_wp2_with fail
          go_quiet (fail)
          go_wp2
          go_roundw
          case rel => exact ⟨1, by omega, rfl, Lib.hid ((HF.out.alloc _).drewN nq)⟩
          case measure => simp [intOf]
        · go_wp2
          go_ret
          exact ⟨rfl, hbox.trans HF.out⟩
end Go.Proofs.YtjnebkoohimgjaaDoor
