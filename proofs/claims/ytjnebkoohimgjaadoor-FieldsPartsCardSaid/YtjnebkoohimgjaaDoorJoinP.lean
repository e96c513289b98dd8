/- Walk over Join, the program's. -/
import Derived.Test.YtjnebkoohimgjaaDoorLineW
import Derived.Test.YtjnebkoohimgjaaDoorBytes
namespace Go.Proofs.YtjnebkoohimgjaaDoor
open Go.RowKit

/-- A slice of bytes of one's own. -/
def BOwn (w : World) (base : Nat) (v : Value) (l : List UInt8) : Prop := w.ownsRow base 5 1 v l.length (l.map bv)
def JoinPost (w : World) (l : List UInt8) (e : Ending) (w' : World) : Prop := ∃ v, e = .returned v ∧ BOwn w' w.heap.size v l ∧ Fr No w w'

set_option maxHeartbeats 1000000 in
set_option maxRecDepth 100000 in
theorem join_any (a : Option Addr) (cap : Nat) (ls : List (List UInt8)) (w : World) (hr : At w a (ls.map sv)) (hn : (joinM ls).length ≤ 100000000) (hl : ls.length ≤ 100000000) :
    Calls Tryd.prog 46 #[.slice a ls.length cap] w (JoinPost w (joinM ls)) := by
  obtain ⟨i0, hi, hz0, hz1, hz2⟩ := info_parts Tryd.info5
  go_enter Tryd.func46, Tryd.ntmps46
  go_wp2
  go_loopw [3, 8] (fun v i wr => ∃ k : Nat, k ≤ ls.length ∧ i = .int .i64 k ∧ BOwn wr w.heap.size v (joinM (ls.take k)) ∧ Fr No w wr) (fun _ i _ => ls.length - (intOf i).toNat)
  case atStart => exact ⟨0, Nat.zero_le _, rfl, World.ownsRow_nil _ _ _ _, Fr.refl _ _⟩
  case round =>
    obtain ⟨k, hk, rfl, hown, hfr⟩ := hrel
    by_cases hlt : k < ls.length
    · obtain ⟨g, off, rfl, hrow⟩ := hr (by simp; omega)
      have hcell := hrow.fr hfr (fun _ _ x => x) k (by simpa using hlt)
      rw [show (ls.map sv).getD k undef = .string ⟨(ls[k]).toArray⟩ from by simp [List.getD_eq_getElem?_getD, List.getElem?_eq_getElem hlt, sv]] at hcell
      have hj := joinM_take ls k hlt
      have hle := joinM_le ls (k + 1)
      rw [hj] at hle
      generalize ls[k] = x at *
      simp only [List.length_append, List.length_cons, List.length_nil] at hle
      have HJ := Lib.hid hj; clear hj
      have hz : w.heap.size ≤ wr.heap.size := hfr.size
      have hxs : (⟨x.toArray⟩ : ByteArray).size = x.length := rfl
      go_wp2_with (first
        | (at_builtin; refine Lib.wpList_append_own_string _ rfl (.tmp 12) (.tmp 13) 22 9 rfl w.heap.size 5 i0 Tryd.underlying22 Tryd.underlying9 hi hz0 hz1 hz2 _ _ _ rfl hown ⟨x.toArray⟩ rfl (by rw [hxs]; unfold maxLen; omega) (by rw [hxs]; omega) hz ?_; intro v1 w1 hown1 hgr1 _; have hz1' : w.heap.size ≤ w1.heap.size := Nat.le_trans hz hgr1.size)
        | (at_builtin; refine wpList_append_own _ rfl (.tmp 14) (.tmp 15) 22 rfl w.heap.size 5 i0 (.int .u8 0) 1 1 Tryd.underlying22 hi hz0 hz1 hz2 rfl (by decide) _ _ _ rfl (hown1.alloc _) ⟨w1.heap.size, 0, none⟩ 1 1 [.int .u8 10] rfl rfl (one_cell_at (by simp [go_sem])) (by simp [Value.oneCell']) (by rw [hxs]; unfold maxLen; omega) (by rw [hxs]; omega) (by simp; omega) ?_; intro v2 w2 hown2 hgr2 _))
      go_roundw
      case rel =>
        refine ⟨k + 1, by omega, by go_num, ?_, ?_⟩
        · unfold BOwn; rw [HJ.out]; rw [strCells_sv, hxs] at hown2; simpa [bv, List.append_assoc, Nat.add_assoc] using hown2
        · refine (hfr.step (Fr.append hown hgr1) (fun i o hi hT => by unfold From at hT; omega)).step (((Fr.refl (From w.heap.size) w1).alloc _).trans (Fr.append (hown1.alloc _) hgr2)) (fun i o hi hT => by unfold From at hT; omega)
      case measure => simp [intOf]; omega
    · obtain rfl : k = ls.length := by omega
      go_wp2
      go_ret
      rw [List.take_length] at hown
      exact ⟨_, rfl, hown, hfr⟩

end Go.Proofs.YtjnebkoohimgjaaDoor
