/- FilesKeeps, walked. -/
import Derived.Test.YtljldkknopmfhaaFilK
import Derived.Test.YtljldkknopmfhaaFilN
namespace Go.Proofs.Ytljldkknopmfhaa
open Go.RowKit Go.Maps Go

/-- What holds when i calls have been made. -/
structure KI (w : World) (d tb : Nat) (S : List (Int × Int)) (i : Nat) (st : DS) (tg : Nat → Nat) (X : DX) (wr : World) : Prop where
  rep : DRep wr d S st tg X
  fine : Fine st i
  txt : wr.heap[tb]? = some (.cells (txtCells st).toArray 28 (0, 0))
  fr : Fr No w wr
  low : ∀ b, b < w.heap.size → tg b = 0
  tgb : tg tb = 0
  old : w.heap.size ≤ tb
theorem KI.keep {w : World} {d tb : Nat} {S : List (Int × Int)} {i : Nat} {st : DS} {tg : Nat → Nat} {X : DX} {wr w' : World} (h : KI w d tb S i st tg X wr) (f : Fr No wr w') : KI w d tb S i st tg X w' :=
  ⟨h.rep.fr f (fun _ _ _ x => x), h.fine, (f.block tb (heap_lt h.txt) (fun _ x => x)).trans h.txt, h.fr.trans f, h.low, h.tgb, h.old⟩
theorem KI.left {w : World} {d tb : Nat} {S : List (Int × Int)} {i : Nat} {st st' : DS} {tg : Nat → Nat} {X : DX} {wr w' : World} (h : KI w d tb S i st tg X wr) (l : Left wr d S st' tg w') (hf : Fine st' (i + 1)) (hc : txtCells st' = txtCells st) :
    ∃ tg' X', KI w d tb S (i + 1) st' tg' X' w' := by
  obtain ⟨tg', X', h1, h2, h3⟩ := l
  exact ⟨tg', X', h1, hf, by rw [hc]; exact (h2.block tb (heap_lt h.txt) (fun _ e => e h.tgb)).trans h.txt, h.fr.step h2 (fun b o hb e => e (h.low b hb)), fun b hb => (h3 b (Nat.lt_of_lt_of_le hb h.fr.size)).trans (h.low b hb),
    (h3 tb (heap_lt h.txt)).trans h.tgb, h.old⟩
def KInv (w : World) (d tb : Nat) (S : List (Int × Int)) (i : Nat) (wr : World) : Prop := ∃ st tg X, KI w d tb S i st tg X wr
theorem KI.texts {w : World} {d tb : Nat} {S : List (Int × Int)} {i : Nat} {st : DS} {tg : Nat → Nat} {X : DX} {wr : World} (h : KI w d tb S i st tg X wr) {k : Nat} (hk : k < 66) : wr.cell? ⟨tb, k, none⟩ = some (sv (txtAt st k)) := by
  rw [cell_block h.txt]
  simpa using txtCells_get st hk
set_option maxHeartbeats 8000000 in
set_option maxRecDepth 100000 in
theorem core_filesKeeps (w : World) (sa : Option Addr) (sc : Nat) (S : List (Int × Int)) (la : Option Addr) (lc : Nat) (l : List Cl) (hs : At w sa (scr S)) (hl : At w la (l.flatMap Cl.cells))
    (hq : ∀ x ∈ l, At w x.a (x.b.map bv) ∧ (Lit.int .i64 x.what).wf = true ∧ (Lit.int .i64 x.no).wf = true ∧ (Lit.int .i64 x.pos).wf = true ∧ (Lit.int .i64 x.most).wf = true) :
    Calls Try.prog 3 #[.slice sa S.length sc, .slice la l.length lc] w (TruePost w) := by
  classical
  have HH := Lib.hid (heavyF_any S l sa sc la lc w hl)
  by_cases hh : heavyF S l
  · rw [decide_eq_true hh] at HH
    clear hh hs hl hq
    go_enter Try.func3, Try.ntmps3
    go_wp2_with (first
      | (go_at_call 16; refine HH.out.mono ?_; rintro e1 w1 ⟨rfl, rfl⟩)
      | (go_at_call 17; refine (awake_any _).mono ?_; rintro e2 w2 ⟨rfl, hf2⟩))
    go_ret
    exact ⟨rfl, hf2⟩
  · rw [decide_eq_false hh] at HH
    have hS : S.length ≤ 300 := Nat.le_of_not_lt fun x => hh (.inl x)
    have hL : l.length ≤ 300 := Nat.le_of_not_lt fun x => hh (.inr (.inl x))
    have HB := Lib.hid (show ∀ x ∈ l, x.b.length ≤ 3000 from fun x hx => Nat.le_of_not_lt fun e => hh (.inr (.inr ⟨x, hx, e⟩)))
    have HN := Lib.hid (newF_any sa sc S w hs (by omega))
    have HLA := Lib.hid hl; have HQ := Lib.hid hq
    clear hh hs hl hq
    go_enter Try.func3, Try.ntmps3
    go_wp2_with (first
      | (go_at_call 16; refine HH.out.mono ?_; rintro e1 w1 ⟨rfl, rfl⟩)
      | (go_at_call 18; refine HN.out.mono ?_; rintro e2 w2 ⟨d, tg2, X2, rfl, hr2, hf2, ht2⟩
         have HR2 := Lib.hid hr2; have HF2 := Lib.hid hf2; have HT2 := Lib.hid ht2; clear hr2 hf2 ht2))
    have HST := Lib.hid (show ∃ tb, tb = w2.heap.size ∧ KInv w d tb S 0 (w2.alloc (.cells Try.zeroCells28 28)) from ⟨_, rfl, ds0, tg2, X2, HR2.out.fr ((Fr.refl No w2).alloc _) (fun _ _ _ x => x), fine0, by
      rw [txt0]; exact (heap_alloc_new w2 _).trans (by kernel_rfl), HF2.out.alloc _, HT2.out, HR2.out.new _ (Nat.le_refl _), HF2.out.size⟩)
    obtain ⟨tb, htb, hinv⟩ := HST.out
    rw [← htb]
    generalize w2.alloc (.cells Try.zeroCells28 28) = w3 at *
    have HI0 := Lib.hid hinv; clear hinv HST htb
    go_loopw [7] (fun i wr => ∃ k : Nat, k ≤ l.length ∧ i = .int .i64 k ∧ Hid (KInv w d tb S k wr)) (fun i _ => l.length - (intOf i).toNat)
    case atStart => exact ⟨0, Nat.zero_le _, rfl, HI0⟩
    case round =>
      obtain ⟨k, hk, rfl, HK⟩ := hrel
      by_cases hlt : k < l.length
      · obtain ⟨st, tg, X, hK⟩ := HK.out
        have HKI := Lib.hid hK; clear HK
        have hat := at_nf HLA.out hK.fr
        clear hK
        obtain ⟨gl, offl, rfl, hrl⟩ := hat.flat cl_len (by decide) (by omega)
        obtain ⟨l0, l1, l2, l3, l4⟩ := cl_cells hrl hlt
        have hki : (k : Int) < l.length := by omega
        have hmem := List.getElem_mem hlt
        obtain ⟨ha, w0, w1', w2', w3'⟩ := HQ.out _ hmem
        have hbl := HB.out _ hmem
        have HA := Lib.hid ha
        have HWH := Lib.hid (fun W => what_any l[k] W w0)
        clear ha hmem hrl w0 hat
        generalize l[k] = x at *
        have HNEW := Lib.hid (HKI.out.rep.new wr.heap.size (Nat.le_refl _))
        have HBX := Lib.hid (fun (W W' : World) (f : Fr No (wr.alloc (.cells #[.int .i64 x.what, .int .i64 x.no, .int .i64 x.pos, .int .i64 x.most, .slice x.a x.b.length x.c] 31)) W) (f' : Fr (Tg tg) W W') =>
          (show W'.cell? ⟨wr.heap.size, 0, none⟩ = some (.int .i64 x.what) ∧ W'.cell? ⟨wr.heap.size, 1, none⟩ = some (.int .i64 x.no) ∧ W'.cell? ⟨wr.heap.size, 2, none⟩ = some (.int .i64 x.pos) ∧ W'.cell? ⟨wr.heap.size, 3, none⟩ = some (.int .i64 x.most) ∧ W'.cell? ⟨wr.heap.size, 4, none⟩ = some (.slice x.a x.b.length x.c) from
            have b := box_at f
            have g := fun o => f'.cell wr.heap.size o b.2 (fun e => e HNEW.out)
            ⟨(g 0).trans (b.1 0), (g 1).trans (b.1 1), (g 2).trans (b.1 2), (g 3).trans (b.1 3), (g 4).trans (b.1 4)⟩))
        have hrange := whatM_range x.what
        have HF := Lib.hid HKI.out.fine
        generalize whatM x.what = q at *
        rcases hrange with rfl | rfl | rfl | rfl
        · -- Create
          have HCR := Lib.hid (fun (W : World) (h : KI w d tb S k st tg X W) => create_any d S st tg X W h.rep h.fine.len h.fine.most (by omega) (by have := h.fine.count; omega))
          unfold CrPost at HCR
          have hfn := fine_create (S := S) HF.out
          have hcc := cells_create S st
          by_cases he : (createM S st).2.2 = 0
          · obtain ⟨n, hn, n1, n2, ht⟩ := create_ok HF.out.most he
            rw [hn, he] at HCR
            have HTX := Lib.hid (fun (W : World) (i : Nat) (st' : DS) (tg' : Nat → Nat) (X' : DX) (h : KI w d tb S i st' tg' X' W) (e : txtCells st' = txtCells st) => show W.cell? ⟨tb, n, none⟩ = some (sv []) from by
              rw [cell_block h.txt, e, ← ht]
              simpa using txtCells_get st (show n < 66 by omega))
            clear hn he ht
            generalize createM S st = r at *
            have HCC := Lib.hid hcc; have HFN := Lib.hid hfn; clear hcc hfn
            have n1i : (1 : Int) ≤ n := by omega
            have n2i : (n : Int) ≤ 64 := by omega
            have n1d : decide ((n : Int) < 1) = false := decide_eq_false (by omega)
            have n2d : decide ((64 : Int) < n) = false := decide_eq_false (by omega)
            have n3 : (n : Int) < 66 := by omega
            go_wp2_with (first
              | (go_at_call 19; refine (HWH.out _).mono ?_; rintro e4 w4 ⟨rfl, hf4⟩
                 have HK4 := Lib.hid (HKI.out.keep (((Fr.refl No wr).alloc _).trans hf4)))
              | (go_at_call 20; refine (HCR.out _ HK4.out).mono ?_; rintro e5 w5 ⟨rfl, hl5⟩
                 obtain ⟨tg5, X5, hk5⟩ := HK4.out.left hl5 HFN.out HCC.out
                 have ht5 := HTX.out _ _ _ _ _ hk5 HCC.out
                 have HK5 := Lib.hid hk5; clear hl5 hk5))
            go_roundw
            case rel => exact ⟨k + 1, by omega, by go_num, Lib.hid ⟨_, _, _, HK5.out⟩⟩
            case measure => simp [intOf]; omega
          · have heb : ((createM S st).2.2 == 0) = false := by simpa using he
            clear he
            generalize createM S st = r at *
            have HCC := Lib.hid hcc; have HFN := Lib.hid hfn; clear hcc hfn
            go_wp2_with (first
              | (go_at_call 19; refine (HWH.out _).mono ?_; rintro e4 w4 ⟨rfl, hf4⟩
                 have HK4 := Lib.hid (HKI.out.keep (((Fr.refl No wr).alloc _).trans hf4)))
              | (go_at_call 20; refine (HCR.out _ HK4.out).mono ?_; rintro e5 w5 ⟨rfl, hl5⟩
                 obtain ⟨tg5, X5, hk5⟩ := HK4.out.left hl5 HFN.out HCC.out
                 have HK5 := Lib.hid hk5; clear hl5 hk5))
            go_roundw
            case rel => exact ⟨k + 1, by omega, by go_num, Lib.hid ⟨_, _, _, HK5.out⟩⟩
            case measure => simp [intOf]; omega
        · -- Write
          obtain ⟨xw, xn, xp, xm, xa, xc, xb⟩ := x
          dsimp only at *
          have HWR := Lib.hid (fun (W : World) (h : KI w d tb S k st tg X W) => write_any d S st tg X W h.rep (by omega) (by have := h.fine.count; omega) (fun no => by have := h.fine.text no; omega) xn w1' xa xc xb (at_nf HA.out h.fr)
            (fun g off e h0 => by
              obtain ⟨g', off', e', hr⟩ := HA.out (by simp; omega)
              rw [e] at e'; injection e' with e'; injection e' with e1 e2; subst e1
              exact h.low g (hr.lt (by simp; omega))))
          unfold RemPost at HWR
          have hfn := fine_write (S := S) HF.out xn xb
          by_cases he : (writeM S st xn xb).2 = 0
          · obtain ⟨n, rfl, n1, n2, hcc⟩ := write_ok HF.out.most he
            rw [he] at HWR
            have htl : (txtAt st n).length ≤ 1000000 := by
              unfold txtAt
              split
              · simp
              · have := HF.out.text n; omega
            clear he
            generalize writeM S st n xb = r at *
            have HCC := Lib.hid hcc; have HFN := Lib.hid hfn; clear hcc hfn
            have n3 : (n : Int) < 66 := by omega
            generalize htx : txtAt st n = tx at *
            have HTX := Lib.hid htx; clear htx
            have hap : (⟨tx.toArray⟩ : ByteArray) ++ ⟨xb.toArray⟩ = ⟨(tx ++ xb).toArray⟩ := by
              apply ByteArray.ext
              simp [ByteArray.data_append]
            have HAP := Lib.hid hap; clear hap
            have z1 : ¬ 9223372036854775807 < tx.length + xb.length := by omega
            go_wp2_with (first
              | (go_at_call 19; refine (HWH.out _).mono ?_; rintro e4 w4 ⟨rfl, hf4⟩
                 obtain ⟨x0, x1, x2, x3, x4⟩ := HBX.out _ _ hf4 (Fr.refl _ _)
                 have HF4 := Lib.hid hf4
                 have HK4 := Lib.hid (HKI.out.keep (((Fr.refl No wr).alloc _).trans hf4)))
              | (go_at_call 21; refine (HWR.out _ HK4.out).mono ?_; rintro e5 w5 ⟨rfl, hl5⟩
                 obtain ⟨tg5, X5, hr5, hf5, ht5⟩ := hl5
                 obtain ⟨y0, y1, y2, y3, y4⟩ := HBX.out _ _ HF4.out hf5
                 have hb5 : w5.heap[tb]? = some (.cells (txtCells st).toArray 28 (0, 0)) := (hf5.block tb (heap_lt HK4.out.txt) (fun _ e => e HK4.out.tgb)).trans HK4.out.txt
                 have hc5 : w5.cell? ⟨tb, n, none⟩ = some (sv tx) := (by rw [cell_block hb5, ← HTX.out]; simpa using txtCells_get st (show n < 66 by omega))
                 have hz5 : w5.frozen? ⟨tb, n, none⟩ = false := frozen_block hb5 n
                 have hw5 : Fr No w w5 := HK4.out.fr.step hf5 (fun b o hb e => e (HK4.out.low b hb))
                 have hcv5 : (convert 29 9 (.slice xa xb.length xc)).run Try.prog w5.drew = .ok (.string ⟨xb.toArray⟩) w5.drew := conv_at (at_nf HA.out hw5.drew) Try.underlying29 Try.underlying5 Try.underlying9
                 have HR5 := Lib.hid hr5; have HB5 := Lib.hid hb5; have HW5 := Lib.hid hw5
                 have hlo5 : ∀ b, b < w.heap.size → tg5 b = 0 := fun b hb => (ht5 b (Nat.lt_of_lt_of_le hb HK4.out.fr.size)).trans (HK4.out.low b hb)
                 have htb5 : tg5 tb = 0 := (ht5 tb (heap_lt HK4.out.txt)).trans HK4.out.tgb
                 have HLO := Lib.hid hlo5; have HTB := Lib.hid htb5; have HOL := Lib.hid HK4.out.old
                 have hne5 : tb ≠ wr.heap.size := (by have := heap_lt HKI.out.txt; omega)
                 clear hr5 hf5 ht5 hb5 hw5 hlo5 htb5))
            go_region
            go_wp2
            rw [HAP.out]
            have f6 : Fr (fun b _ => b = tb) w5 (w5.setCell ⟨tb, n, none⟩ (.string ⟨(tx ++ xb).toArray⟩)).drew := (Fr.setCell (S := fun x _ => x = tb) (Fr.refl _ _) (fun _ => rfl) _).drew
            refine ⟨⟨k + 1, by omega, by go_num, Lib.hid ⟨r.1, tg5, X5, HR5.out.fr f6 (fun b o hb e => by rw [e] at hb; exact hb HTB.out), HFN.out, ?_, (HW5.out.setCell (fun hb => absurd HOL.out (by omega)) _).drew, HLO.out, HTB.out, HOL.out⟩⟩, by simp [intOf]; omega⟩
            rw [HCC.out]
            show (w5.setCell ⟨tb, n, none⟩ (.string ⟨(tx ++ xb).toArray⟩)).heap[tb]? = _
            rw [setCell_eq_setRow w5 tb n _ _ _ _ HB5.out, setRow_heap w5 tb _ _ _ _ HB5.out]
            simp
          · have heb : ((writeM S st xn xb).2 == 0) = false := by simpa using he
            have hcc := write_no he
            clear he
            generalize writeM S st xn xb = r at *
            have HCC := Lib.hid hcc; have HFN := Lib.hid hfn; clear hcc hfn
            go_wp2_with (first
              | (go_at_call 19; refine (HWH.out _).mono ?_; rintro e4 w4 ⟨rfl, hf4⟩
                 obtain ⟨x0, x1, x2, x3, x4⟩ := HBX.out _ _ hf4 (Fr.refl _ _)
                 have HK4 := Lib.hid (HKI.out.keep (((Fr.refl No wr).alloc _).trans hf4)))
              | (go_at_call 21; refine (HWR.out _ HK4.out).mono ?_; rintro e5 w5 ⟨rfl, hl5⟩
                 obtain ⟨tg5, X5, hk5⟩ := HK4.out.left hl5 HFN.out HCC.out
                 have HK5 := Lib.hid hk5; clear hl5 hk5))
            go_roundw
            case rel => exact ⟨k + 1, by omega, by go_num, Lib.hid ⟨_, _, _, HK5.out⟩⟩
            case measure => simp [intOf]; omega
        · -- Read
          obtain ⟨xw, xn, xp, xm, xa, xc, xb⟩ := x
          dsimp only at *
          have HRD := Lib.hid (fun (W : World) (h : KI w d tb S k st tg X W) => read_any d S st tg X W h.rep (by omega) (by have := h.fine.count; omega) (fun no => by have := h.fine.text no; omega) xn w1' 0 1000000)
          have hf1 := fine_read1 (S := S) HF.out xn 0 1000000
          have hcc1 := cells_read S st xn 0 1000000
          have hro1 := read_ok (S := S) (st := st) (no := xn) (po := 0) (mo := 1000000) HF.out.most
          have HR2D := Lib.hid (fun (W : World) (h : DRep W d S (readM S st xn 0 1000000).1 tg X) => read_any d S (readM S st xn 0 1000000).1 tg X W h (by omega) (by omega) (fun no => by have := hf1.2.2.2 no; omega) xn w1' xp xm)
          have hfn := fine_read2 (S := S) HF.out xn 0 1000000 xn xp xm
          have hcc2 := cells_read S (readM S st xn 0 1000000).1 xn xp xm
          have hro2 := read_ok (S := S) (st := (readM S st xn 0 1000000).1) (no := xn) (po := xp) (mo := xm) hf1.2.1
          have hta := fun j (hj : j < 66) => (show txtAt (readM S st xn 0 1000000).1 j = txtAt st j from by
            have h1 := txtCells_get (readM S st xn 0 1000000).1 hj
            rw [hcc1, txtCells_get st hj] at h1
            simpa using h1.symm)
          have htl : ∀ n, (txtAt st n).length ≤ 1000000 := fun n => by
            unfold txtAt
            split
            · simp
            · have := HF.out.text n; omega
          unfold ReadPost at HRD HR2D
          generalize readM S (readM S st xn 0 1000000).1 xn xp xm = r2 at *
          generalize readM S st xn 0 1000000 = r at *
          obtain ⟨st2, o2, er2⟩ := r2
          obtain ⟨st1, o1, er1⟩ := r
          dsimp only at *
          -- what the first read says
          have hA : er1 ≠ 0 ∨ (er1 = 0 ∧ ∃ n : Nat, xn = n ∧ n ≤ 64 ∧ o1 = txtAt st n) := by
            by_cases h : er1 = 0
            · obtain ⟨n, p, q, e1, e2, e3, _, _, e4, _, e5, _⟩ := hro1 h
              obtain rfl : p = 0 := by omega
              have := e4 rfl rfl (htl n)
              subst this
              exact .inr ⟨h, n, e1, e2, by rw [e5]; simp⟩
            · exact .inl h
          have hB : er2 ≠ 0 ∨ (er2 = 0 ∧ ∃ n p q : Nat, xn = n ∧ n ≤ 64 ∧ xp = p ∧ (q : Int) ≤ xm ∧ p + q ≤ (txtAt st n).length ∧ o2 = ((txtAt st n).drop p).take q ∧ o2.length = q) := by
            by_cases h : er2 = 0
            · obtain ⟨n, p, q, e1, e2, e3, _, e4, _, e5, e6, e7⟩ := hro2 h
              rw [hta n (by omega)] at e5 e6
              exact .inr ⟨h, n, p, q, e1, e2, e3, e4, e5, e6, e7⟩
            · exact .inl h
          have HCC := Lib.hid (hcc2.trans hcc1); have HFN := Lib.hid hfn
          clear hf1 hcc1 hcc2 hro1 hro2 hta hfn
          have HRE := Lib.hid (fun (W W' : World) (h : KI w d tb S k st tg X W) (f : Fr (fun b _ => b = d) W W') (h2 : DRep W' d S st2 tg X) => (show KI w d tb S (k + 1) st2 tg X W' from
            have f' : Fr (Tg tg) W W' := f.mono fun b o _ e => by rw [e]; unfold Tg; rw [h.rep.tgd]; decide
            ⟨h2, HFN.out, by rw [HCC.out]; exact (f'.block tb (heap_lt h.txt) (fun _ e => e h.tgb)).trans h.txt, h.fr.step f' (fun b o hb e => e (h.low b hb)), h.low, h.tgb, h.old⟩))
          have HTG := Lib.hid (show ∀ W W' : World, Fr (fun b _ => b = d) W W' → Fr (Tg tg) W W' from fun W W' f => f.mono fun b o _ e => by rw [e]; unfold Tg; rw [HKI.out.rep.tgd]; decide)
          rcases hA with ha1 | ⟨rfl, n, rfl, hn, rfl⟩
          · rcases hB with hb1 | ⟨rfl, n, p, q, rfl, hn, rfl, hqm, hpq, rfl, hol⟩
            · --
              have ha1b : (er1 == 0) = false := by simpa using ha1
              clear ha1
              have hb1b : (er2 == 0) = false := by simpa using hb1
              clear hb1
              go_wp2_with (first
                | (go_at_call 19; refine (HWH.out _).mono ?_; rintro e4 w4 ⟨rfl, hf4⟩
                   obtain ⟨x0, x1, x2, x3, x4⟩ := HBX.out _ _ hf4 (Fr.refl _ _)
                   have HF4 := Lib.hid hf4
                   have HK4 := Lib.hid (HKI.out.keep (((Fr.refl No wr).alloc _).trans hf4)))
                | (go_at_call 22; refine (HRD.out _ HK4.out).mono ?_; rintro e5 w5 ⟨a5, c5, rfl, ho5, hr5, hf5, _⟩
                   obtain ⟨y0, y1, y2, y3, y4⟩ := HBX.out _ _ HF4.out (HTG.out _ _ hf5)
                   have HR5 := Lib.hid hr5; have HF5 := Lib.hid hf5
                   clear ho5 hr5 hf5))
              go_quiet (fail)
              go_wp2_with (first
                | (go_at_call 22; refine (HR2D.out _ (HR5.out.fr ((Fr.refl No _).drewN _) (fun _ _ _ x => x))).mono ?_; rintro e6 w6 ⟨a6, c6, rfl, ho6, hr6, hf6, _⟩
                   obtain ⟨z0, z1, z2, z3, z4⟩ := HBX.out _ _ HF4.out (HTG.out _ _ ((HF5.out.drewN _).trans hf6))
                   have HK6 := Lib.hid (HRE.out _ _ HK4.out ((HF5.out.drewN _).trans hf6) hr6)
                   clear ho6 hr6 hf6))
              go_quiet (fail)
              go_wp2
              refine ⟨⟨k + 1, by omega, by go_num, Lib.hid ⟨_, _, _, HK6.out.keep ((Fr.refl No _).drewN _)⟩⟩, by simp [intOf]; omega⟩
            · --
              have htx := htl n
              have hn3 : (n : Int) < 66 := by omega
              have HTX := Lib.hid (fun (W : World) (i : Nat) (st' : DS) (tg' : Nat → Nat) (X' : DX) (h : W.heap[tb]? = some (.cells (txtCells st).toArray 28 (0, 0))) => show W.cell? ⟨tb, n, none⟩ = some (sv (txtAt st n)) from by
                rw [cell_block h]
                simpa using txtCells_get st (show n < 66 by omega))
              have hB1 : decide (((txtAt st n).length : Int) < p) = false := decide_eq_false (by omega)
              have hB1n : ¬ (txtAt st n).length < p := by omega
              have hB1d : decide ((txtAt st n).length < p) = false := decide_eq_false hB1n
              have hB1i : ¬ ((txtAt st n).length : Int) < p := by omega
              have hB2i : ¬ xm < (q : Int) := by omega
              have hB2 : decide (xm < (q : Int)) = false := decide_eq_false (by omega)
              have hB3 : (p : Int) ≤ (txtAt st n).length := by omega
              have hsl : ∀ W : World, (Instr.slice 9 (sv (txtAt st n)) (some (.int .i64 p)) (some (.int .i64 ((p : Int) + q))) none).run Try.prog W = .ok (sv (((txtAt st n).drop p).take q)) W := fun W => by
                have h := run_slice_string (P := Try.prog) W 9 ⟨(txtAt st n).toArray⟩ .i64 .i64 (p : Int) ((p : Int) + q) Try.underlying9 (by omega) (by omega) (by rw [size_mk]; omega)
                refine h.trans ?_
                rw [ByteArray.extract_mk]
                congr 5
                · omega
              have ha1b : (er1 == 0) = false := by simpa using ha1
              clear ha1
              generalize txtAt st n = tx at *
              generalize (tx.drop p).take q = o at *
              subst hol
              go_wp2_with (first
                | (go_at_call 19; refine (HWH.out _).mono ?_; rintro e4 w4 ⟨rfl, hf4⟩
                   obtain ⟨x0, x1, x2, x3, x4⟩ := HBX.out _ _ hf4 (Fr.refl _ _)
                   have HF4 := Lib.hid hf4
                   have HK4 := Lib.hid (HKI.out.keep (((Fr.refl No wr).alloc _).trans hf4)))
                | (go_at_call 22; refine (HRD.out _ HK4.out).mono ?_; rintro e5 w5 ⟨a5, c5, rfl, ho5, hr5, hf5, _⟩
                   obtain ⟨y0, y1, y2, y3, y4⟩ := HBX.out _ _ HF4.out (HTG.out _ _ hf5)
                   have HR5 := Lib.hid hr5; have HF5 := Lib.hid hf5
                   clear ho5 hr5 hf5))
              go_quiet (fail)
              go_wp2_with (first
                | (go_at_call 22; refine (HR2D.out _ (HR5.out.fr ((Fr.refl No _).drewN _) (fun _ _ _ x => x))).mono ?_; rintro e6 w6 ⟨a6, c6, rfl, ho6, hr6, hf6, _⟩
                   obtain ⟨z0, z1, z2, z3, z4⟩ := HBX.out _ _ HF4.out (HTG.out _ _ ((HF5.out.drewN _).trans hf6))
                   obtain ⟨a', c', e', hat6, _⟩ := ho6.at
                   injection e' with e1 e2 e3; subst e1
                   have hcv6 : ∀ z, (convert 29 9 (.slice a6 o.length c6)).run Try.prog (w6.drewN z) = .ok (.string ⟨o.toArray⟩) (w6.drewN z) := fun z => conv_at (at_nf hat6 ((Fr.refl No _).drewN z)) Try.underlying29 Try.underlying5 Try.underlying9
                   have ht6 := HTX.out w6 0 st tg X (((HTG.out _ _ ((HF5.out.drewN _).trans hf6)).block tb (heap_lt HK4.out.txt) (fun _ e => e HK4.out.tgb)).trans HK4.out.txt)
                   clear e2 e3 hat6
                   have HK6 := Lib.hid (HRE.out _ _ HK4.out ((HF5.out.drewN _).trans hf6) hr6)
                   clear ho6 hr6 hf6))
              go_quiet (fail)
              go_wp2
              refine ⟨⟨k + 1, by omega, by go_num, Lib.hid ⟨_, _, _, HK6.out.keep ((Fr.refl No _).drewN _)⟩⟩, by simp [intOf]; omega⟩
          · rcases hB with hb1 | ⟨rfl, n', p, q, hnn, _, rfl, hqm, hpq, rfl, hol⟩
            · --
              have htx := htl n
              have hn3 : (n : Int) < 66 := by omega
              have HTX := Lib.hid (fun (W : World) (i : Nat) (st' : DS) (tg' : Nat → Nat) (X' : DX) (h : W.heap[tb]? = some (.cells (txtCells st).toArray 28 (0, 0))) => show W.cell? ⟨tb, n, none⟩ = some (sv (txtAt st n)) from by
                rw [cell_block h]
                simpa using txtCells_get st (show n < 66 by omega))
              have hb1b : (er2 == 0) = false := by simpa using hb1
              clear hb1
              generalize txtAt st n = tx at *
              go_wp2_with (first
                | (go_at_call 19; refine (HWH.out _).mono ?_; rintro e4 w4 ⟨rfl, hf4⟩
                   obtain ⟨x0, x1, x2, x3, x4⟩ := HBX.out _ _ hf4 (Fr.refl _ _)
                   have HF4 := Lib.hid hf4
                   have HK4 := Lib.hid (HKI.out.keep (((Fr.refl No wr).alloc _).trans hf4)))
                | (go_at_call 22; refine (HRD.out _ HK4.out).mono ?_; rintro e5 w5 ⟨a5, c5, rfl, ho5, hr5, hf5, _⟩
                   obtain ⟨y0, y1, y2, y3, y4⟩ := HBX.out _ _ HF4.out (HTG.out _ _ hf5)
                   obtain ⟨a', c', e', hat5, _⟩ := ho5.at
                   injection e' with e1 e2 e3; subst e1
                   have hcv5 : ∀ z, (convert 29 9 (.slice a5 tx.length c5)).run Try.prog (w5.drewN z) = .ok (.string ⟨tx.toArray⟩) (w5.drewN z) := fun z => conv_at (at_nf hat5 ((Fr.refl No _).drewN z)) Try.underlying29 Try.underlying5 Try.underlying9
                   have ht5 := HTX.out w5 0 st tg X (((HTG.out _ _ hf5).block tb (heap_lt HK4.out.txt) (fun _ e => e HK4.out.tgb)).trans HK4.out.txt)
                   clear e2 e3 hat5
                   have HR5 := Lib.hid hr5; have HF5 := Lib.hid hf5
                   clear ho5 hr5 hf5))
              go_quiet (fail)
              go_wp2_with (first
                | (go_at_call 22; refine (HR2D.out _ (HR5.out.fr ((Fr.refl No _).drewN _) (fun _ _ _ x => x))).mono ?_; rintro e6 w6 ⟨a6, c6, rfl, ho6, hr6, hf6, _⟩
                   obtain ⟨z0, z1, z2, z3, z4⟩ := HBX.out _ _ HF4.out (HTG.out _ _ ((HF5.out.drewN _).trans hf6))
                   have HK6 := Lib.hid (HRE.out _ _ HK4.out ((HF5.out.drewN _).trans hf6) hr6)
                   clear ho6 hr6 hf6))
              go_quiet (fail)
              go_wp2
              refine ⟨⟨k + 1, by omega, by go_num, Lib.hid ⟨_, _, _, HK6.out.keep ((Fr.refl No _).drewN _)⟩⟩, by simp [intOf]; omega⟩
            · --
              obtain rfl : n = n' := by omega
              clear hnn
              have htx := htl n
              have hn3 : (n : Int) < 66 := by omega
              have HTX := Lib.hid (fun (W : World) (i : Nat) (st' : DS) (tg' : Nat → Nat) (X' : DX) (h : W.heap[tb]? = some (.cells (txtCells st).toArray 28 (0, 0))) => show W.cell? ⟨tb, n, none⟩ = some (sv (txtAt st n)) from by
                rw [cell_block h]
                simpa using txtCells_get st (show n < 66 by omega))
              have hB1 : decide (((txtAt st n).length : Int) < p) = false := decide_eq_false (by omega)
              have hB1n : ¬ (txtAt st n).length < p := by omega
              have hB1d : decide ((txtAt st n).length < p) = false := decide_eq_false hB1n
              have hB1i : ¬ ((txtAt st n).length : Int) < p := by omega
              have hB2i : ¬ xm < (q : Int) := by omega
              have hB2 : decide (xm < (q : Int)) = false := decide_eq_false (by omega)
              have hB3 : (p : Int) ≤ (txtAt st n).length := by omega
              have hsl : ∀ W : World, (Instr.slice 9 (sv (txtAt st n)) (some (.int .i64 p)) (some (.int .i64 ((p : Int) + q))) none).run Try.prog W = .ok (sv (((txtAt st n).drop p).take q)) W := fun W => by
                have h := run_slice_string (P := Try.prog) W 9 ⟨(txtAt st n).toArray⟩ .i64 .i64 (p : Int) ((p : Int) + q) Try.underlying9 (by omega) (by omega) (by rw [size_mk]; omega)
                refine h.trans ?_
                rw [ByteArray.extract_mk]
                congr 5
                · omega
              generalize txtAt st n = tx at *
              generalize (tx.drop p).take q = o at *
              subst hol
              go_wp2_with (first
                | (go_at_call 19; refine (HWH.out _).mono ?_; rintro e4 w4 ⟨rfl, hf4⟩
                   obtain ⟨x0, x1, x2, x3, x4⟩ := HBX.out _ _ hf4 (Fr.refl _ _)
                   have HF4 := Lib.hid hf4
                   have HK4 := Lib.hid (HKI.out.keep (((Fr.refl No wr).alloc _).trans hf4)))
                | (go_at_call 22; refine (HRD.out _ HK4.out).mono ?_; rintro e5 w5 ⟨a5, c5, rfl, ho5, hr5, hf5, _⟩
                   obtain ⟨y0, y1, y2, y3, y4⟩ := HBX.out _ _ HF4.out (HTG.out _ _ hf5)
                   obtain ⟨a', c', e', hat5, _⟩ := ho5.at
                   injection e' with e1 e2 e3; subst e1
                   have hcv5 : ∀ z, (convert 29 9 (.slice a5 tx.length c5)).run Try.prog (w5.drewN z) = .ok (.string ⟨tx.toArray⟩) (w5.drewN z) := fun z => conv_at (at_nf hat5 ((Fr.refl No _).drewN z)) Try.underlying29 Try.underlying5 Try.underlying9
                   have ht5 := HTX.out w5 0 st tg X (((HTG.out _ _ hf5).block tb (heap_lt HK4.out.txt) (fun _ e => e HK4.out.tgb)).trans HK4.out.txt)
                   clear e2 e3 hat5
                   have HR5 := Lib.hid hr5; have HF5 := Lib.hid hf5
                   clear ho5 hr5 hf5))
              go_quiet (fail)
              go_wp2_with (first
                | (go_at_call 22; refine (HR2D.out _ (HR5.out.fr ((Fr.refl No _).drewN _) (fun _ _ _ x => x))).mono ?_; rintro e6 w6 ⟨a6, c6, rfl, ho6, hr6, hf6, _⟩
                   obtain ⟨z0, z1, z2, z3, z4⟩ := HBX.out _ _ HF4.out (HTG.out _ _ ((HF5.out.drewN _).trans hf6))
                   obtain ⟨a', c', e', hat6, _⟩ := ho6.at
                   injection e' with e1 e2 e3; subst e1
                   have hcv6 : ∀ z, (convert 29 9 (.slice a6 o.length c6)).run Try.prog (w6.drewN z) = .ok (.string ⟨o.toArray⟩) (w6.drewN z) := fun z => conv_at (at_nf hat6 ((Fr.refl No _).drewN z)) Try.underlying29 Try.underlying5 Try.underlying9
                   have ht6 := HTX.out w6 0 st tg X (((HTG.out _ _ ((HF5.out.drewN _).trans hf6)).block tb (heap_lt HK4.out.txt) (fun _ e => e HK4.out.tgb)).trans HK4.out.txt)
                   clear e2 e3 hat6
                   have HK6 := Lib.hid (HRE.out _ _ HK4.out ((HF5.out.drewN _).trans hf6) hr6)
                   clear ho6 hr6 hf6))
              go_quiet (fail)
              go_wp2
              refine ⟨⟨k + 1, by omega, by go_num, Lib.hid ⟨_, _, _, HK6.out.keep ((Fr.refl No _).drewN _)⟩⟩, by simp [intOf]; omega⟩
        · -- Remove
          have HRM := Lib.hid (fun (W : World) (h : KI w d tb S k st tg X W) => remove_any d S st tg X W h.rep h.fine.len (by omega) (by have := h.fine.count; omega) x.no w1')
          unfold RemPost at HRM
          have hfn := fine_remove (S := S) HF.out x.no
          have hcc := cells_remove S st x.no
          generalize removeM S st x.no = r at *
          have HCC := Lib.hid hcc; have HFN := Lib.hid hfn; clear hcc hfn
          go_wp2_with (first
            | (go_at_call 19; refine (HWH.out _).mono ?_; rintro e4 w4 ⟨rfl, hf4⟩
               obtain ⟨x0, x1, x2, x3, x4⟩ := HBX.out _ _ hf4 (Fr.refl _ _)
               have HK4 := Lib.hid (HKI.out.keep (((Fr.refl No wr).alloc _).trans hf4)))
            | (go_at_call 23; refine (HRM.out _ HK4.out).mono ?_; rintro e5 w5 ⟨rfl, hl5⟩
               obtain ⟨tg5, X5, hk5⟩ := HK4.out.left hl5 HFN.out HCC.out
               have HK5 := Lib.hid hk5; clear hl5 hk5))
          go_roundw
          case rel => exact ⟨k + 1, by omega, by go_num, Lib.hid ⟨_, _, _, HK5.out⟩⟩
          case measure => simp [intOf]; omega
      · obtain rfl : k = l.length := by omega
        obtain ⟨st, tg, X, hK⟩ := HK.out
        have HF := Lib.hid hK.fr
        clear hK HK
        go_wp2_with (first
          | (go_at_call 17; refine (awake_any _).mono ?_; rintro e9 w9 ⟨rfl, hf9⟩))
        go_ret
        exact ⟨rfl, HF.out.trans hf9⟩
theorem walk_filesKeeps (w : World) {v0 v1 : Value} (S : List (Int × Int)) (hS : IsFails w v0 S) (l : List Cl) (hl : IsCalls w v1 l) : Calls Try.prog 3 #[v0, v1] w (TruePost w) := by
  obtain ⟨sa, sc, rfl, hs, _⟩ := hS
  obtain ⟨la, lc, rfl, ha, hq⟩ := hl
  exact core_filesKeeps w sa sc S la lc l hs ha fun x hx => ⟨(hq x hx).1, (hq x hx).2.2⟩
end Go.Proofs.Ytljldkknopmfhaa
