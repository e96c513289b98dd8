/- LineCuts: the walk. -/
import Derived.Test.YtmjmaffbnejccaaLineE
namespace Go.Proofs.Ytmjmaffbnejccaa
open Go.RowKit

set_option maxHeartbeats 4000000 in
set_option maxRecDepth 100000 in
theorem cuts_main (w : World) (a : Option Addr) (cap : Nat) (ps : List (List UInt8)) (r : Int) (hcap : ps.length ≤ cap) (ha : AtP w a ps) (h1 : ps.length ≤ 300) (h2 : ps.flatten.length ≤ 8192) (hr0 : 0 ≤ r) (hr1 : r < 18446744073709551616) :
    Calls Try.prog 3 #[.slice a ps.length cap, .int .u64 r] w (TruePost w) := by
  obtain ⟨j0, hj, jz0, jz1, jz2⟩ := info_parts Try.info5
  have hz := zero_spl
  have hs := splZero_size
  have hz2 := zero_rspl
  have hl3 : (ps.length : Int) ≤ 300 := by omega
  go_enter Try.func3, Try.ntmps3
  go_wp2_with (go_at_call 8; refine (long_false _ _ _ _ ha h1 h2).mono ?_; rintro e w' ⟨rfl, rfl⟩)
  clear hz hs hz2
  go_loopw [7] (fun i wr => ∃ (k : Nat) (cs all : List UInt8) (v : Value) (ls : List (List UInt8)) (f : Bool), k ≤ ps.length ∧ i = .int .i64 k ∧ CSt w wr cs all v ls f ∧ all.length ≤ (ps.take k).flatten.length) (fun i _ => ps.length - (intOf i).toNat)
  case atStart =>
    refine ⟨0, [], [], .slice none 0 0, [], false, Nat.zero_le _, rfl, ⟨?_, ⟨?_, OwnSl.nil _ _ _, ?_, ?_, ?_, by simp [Value.ownBlock]⟩, by simp [Value.ownBlock], rfl, ((Fr.refl No w).alloc _).alloc _⟩, by simp⟩
    · exact (spl_new w splZero 29 0 (by simp)).fr ((Fr.refl No _).alloc _) (fun _ _ x => x)
    · simp [go_sem]
    · simp [go_sem]
    · simp [go_sem]
    · intro i _; simp [go_sem]
  case round =>
    obtain ⟨k, cs, all, v, ls, f, hk, rfl, hst, hal⟩ := hrel
    by_cases hlt : k < ps.length
    · obtain ⟨g, off, rfl, hrow⟩ := ha (by omega)
      obtain ⟨xa, c1, hc1, hxa⟩ := hrow k hlt
      have hbw := World.block_lt_of_cell? w _ hc1
      have hfl := flat_succ ps k hlt
      have hjl := joined_le ps (k + 1)
      generalize ps[k] = p at *
      have hpl : p.length ≤ 8192 := by rw [hfl] at hjl; omega
      have hT : (ps.take k).flatten.length ≤ 8192 := by rw [hfl] at hjl; omega
      have hpl : p.length ≤ 8192 := by rw [hfl] at hjl; omega
      have hT : (ps.take k).flatten.length ≤ 8192 := by rw [hfl] at hjl; omega
      cases f with
      | true =>
        obtain rfl : cs = [] := by have := cutM_fail all [] [] (by rw [hst.M]); rw [hst.M] at this; exact this
        cases hbit : (bits BinOp.and IntKind.u64 (r / 2 ^ (k % 64)) 1 == 1) with
        | false =>
          obtain ⟨wX, rfl⟩ : ∃ x, x = wr := ⟨_, rfl⟩
          have hxaX := hxa.fr hst.fr (fun _ _ _ _ _ _ x => x)
          have hcellX : wX.cell? ⟨g, off + k, none⟩ = some (.slice xa p.length c1) := by rw [hst.fr.cell _ _ hbw (fun x => x)]; exact hc1
          have hgX : g < wX.heap.size := World.block_lt_of_cell? wX _ hcellX
          go_wp2_with (first
            | (at_builtin;
                  refine wpList_append_sl rfl (.tmp 55) (.tmp 59) 31 31 rfl 5 j0 (.int .u8 0) 1 1 Try.underlying31 hj jz0 jz1 jz2 rfl (by decide) (.slice (some ⟨wX.heap.size, 0, none⟩) 0 0) 0 [] rfl (own_empty wX 5 1) _ p.length (p.map bv) rfl (src_slice Try.underlying31 (by simp) (hxaX.fr ((Fr.refl No _).alloc _) (fun _ _ _ _ _ _ x => x)) (by simp [Value.oneCell'])) (by omega) (by omega) ?_;
                  intro v12 wB hown12 hfr12 hblk12;
                  obtain ⟨a12, c12, hv12, hat12, _⟩ := hown12.at;
                  subst hv12;
                  rw [List.nil_append] at hat12;
                  have hfX : Fr (From wX.heap.size) wX wB := ((Fr.refl (From wX.heap.size) wX).alloc _).trans (hfr12.mono (fun b o _ e => by have e' : some wX.heap.size = some b := e; injection e' with e'; unfold From; omega));
                  have hb12 : ∀ b, (Value.slice a12 (0 + p.length) c12).ownBlock = some b → wX.heap.size ≤ b := (by
                    intro b e
                    rcases hblk12 with h | h
                    · rw [h] at e; have e' : some wX.heap.size = some b := e; injection e' with e'; omega
                    · rw [h] at e; injection e with e; simp at e; omega);
                  have HB12 : Hid (∀ n c b, (Value.slice a12 n c).ownBlock = some b → wX.heap.size ≤ b ∧ b < wB.heap.size) := Lib.hid (fun n c b e => by rw [ownBlock_len a12 n c (0 + p.length) c12] at e; exact ⟨hb12 b e, hown12.lt b e⟩);
                  have hstB := hst.step hfX (fun b o x => x);
                  have hcellB : wB.cell? ⟨g, off + k, none⟩ = some (.slice xa p.length c1) := (by rw [hstB.fr.cell _ _ hbw (fun x => x)]; exact hc1);
                  have hxaB := hxa.fr hstB.fr (fun _ _ _ _ _ _ x => x);
                  clear hcellX hb12 hblk12 hfr12)
            | (go_at_call 12;
                  refine (cut_failed _ _ _ _ _ hstB.spl).mono ?_;
                  rintro e wC ⟨rfl, rfl⟩;
                  have hcvl : ∀ n, (convert 31 9 (.slice xa p.length c1)).run Try.prog (wB.drewN n) = .ok (.string ⟨p.toArray⟩) (wB.drewN n) := (fun n => conv_at (P := Try.prog) (cap := c1) (hxaB.fr ((Fr.refl No wB).drewN n) (fun _ _ _ _ _ _ x => x)) (src := 31) (dst := 9) Try.underlying31 Try.underlying5 Try.underlying9);
                  have hcvb : ∀ n, (convert 31 9 (.slice a12 p.length c12)).run Try.prog (wB.drewN n) = .ok (.string ⟨p.toArray⟩) (wB.drewN n) := (fun n => conv_at (P := Try.prog) (cap := c12) (hat12.fr ((Fr.refl No wB).drewN n) (fun _ _ _ _ _ _ x => x)) (src := 31) (dst := 9) Try.underlying31 Try.underlying5 Try.underlying9)))
          go_quiet (fail)
          go_wp2
          have hpI : (p.length : Int) ≤ 8192 := by omega
          have own12 : ∃ q : List Value, OwnSl wB 5 1 (.slice a12 p.length c12) p.length q ∧ ∀ x ∈ q, ∃ n : Int, x = .int .u8 n := ⟨p.map bv, by
            simpa using hown12, fun x hx => by obtain ⟨y, _, rfl⟩ := List.mem_map.1 hx; exact ⟨_, rfl⟩⟩
          have OW := Lib.hid own12
          clear own12 hcvl hcvb hown12 hat12
          go_loopw [15] (fun i wr2 => ∃ j : Nat, j ≤ p.length ∧ i = .int .i64 j ∧ Fr (Blk (.slice a12 p.length c12)) wB wr2 ∧ ∃ q : List Value, OwnSl wr2 5 1 (.slice a12 p.length c12) p.length q ∧ ∀ x ∈ q, ∃ n : Int, x = .int .u8 n) (fun i _ => p.length - (intOf i).toNat)
          case atStart => exact ⟨0, Nat.zero_le _, rfl, (Fr.refl _ _).drewN nq, by
            obtain ⟨q, h1, h2⟩ := OW.out
            exact ⟨q, h1.fr ((Fr.refl No _).drewN nq) (fun _ _ _ x => x), h2⟩⟩
          case round =>
            obtain ⟨j, hjp, rfl, hfr2, q, hq, hq8⟩ := hrel
            by_cases hjl : j < p.length
            · obtain ⟨g2, o2, rfl, hcj, hfj⟩ := hq.get hjl
              obtain ⟨n8, hn8⟩ := hq8 (q.getD j undef) (by
                have : j < q.length := by rw [hq.1]; omega
                rw [List.getD_eq_getElem?_getD, List.getElem?_eq_getElem this]; exact List.getElem_mem _)
              rw [hn8] at hcj
              have HQ := Lib.hid hq
              have HQ8 := Lib.hid hq8
              clear hq hq8 hn8
              go_wp2
              go_roundw
              case rel => exact ⟨j + 1, by omega, by go_num, hfr2.setCell (fun _ => rfl) _, _, HQ.out.set hjl _, fun x hx => by
                rcases List.mem_or_eq_of_mem_set hx with h | h
                · exact HQ8.out x h
                · exact ⟨_, h⟩⟩
              case measure => simp [intOf]; omega
            · obtain rfl : j = p.length := by omega
              have hstD := hstB.step2 hfr2 (fun b o x => by have := HB12.out _ _ _ x; have := hst.rs.lt; have := hst.spl.lt; exact ⟨by omega, by omega, by have := hst.fr.size; omega, fun e => by have := hst.rs.own.lt b e; omega⟩)
              have hcellD : wr.cell? ⟨g, off + k, none⟩ = some (.slice xa p.length c1) := by rw [hstD.fr.cell _ _ hbw (fun x => x)]; exact hc1
              have hapn := joined_le2 ps k
              clear hq hq8 hcellB
              go_wp2_with (first
                | (go_at_call 13;
                      refine (rcut_failed _ _ _ _ _ _ hstD.rs).mono ?_;
                      rintro e wE ⟨rfl, rfl⟩)
                | (go_at_call 14;
                      refine (same_true _ _ _ _ _ _ [] _ rfl rfl (At.nil _ _) (At.nil _ _) (by simp)).mono ?_;
                      rintro e wF ⟨rfl, hfrF⟩;
                      have hstF := hstD.step hfrF (fun _ _ x => x.elim);
                      have hn1 := hstF.spl.n;
                      rw [List.length_nil] at hn1)
                | (go_at_call 15;
                      refine (begun_any _ _ _ _ hn1).mono ?_;
                      rintro e wG ⟨rfl, rfl⟩))
              go_roundw
              case rel => exact ⟨k + 1, [], _, _, _, true, by omega, by go_num, hstF, Nat.le_trans hal hapn⟩
              case measure => simp [intOf]; omega
        | true =>
          have HM := Lib.hid hst.M
          go_wp2_with (first
            | (go_at_call 10;
                  refine (rest_calls _ _ _ _ _ hst.spl).mono ?_;
                  rintro e wY ⟨rfl, hsplY, hfrY⟩;
                  have hY := hst.rest1 hfrY;
                  obtain ⟨hrsY, hfrY2⟩ := hY)
            | (go_at_call 11;
                  refine (rrest_any _ _ _ _ _ _ hrsY (by omega)).mono ?_;
                  rw [HM.out];
                  rintro e wX ⟨rfl, hfrX, hRX⟩;
                  dsimp only at hRX;
                  obtain ⟨all', v', ls', hst', hal'⟩ := hst.rest2 hsplY hfrY2 hfrX hRX;
                  have hal := Nat.le_trans hal' hal;
                  have hst := hst';
                  clear hst' hal' hRX hfrX hfrY hfrY2 hrsY hsplY;
                  have hxaX := hxa.fr hst.fr (fun _ _ _ _ _ _ x => x);
                  have hcellX : wX.cell? ⟨g, off + k, none⟩ = some (.slice xa p.length c1) := (by rw [hst.fr.cell _ _ hbw (fun x => x)]; exact hc1);
                  have hgX : g < wX.heap.size := World.block_lt_of_cell? wX _ hcellX)
            | (at_builtin;
                  refine wpList_append_sl rfl (.tmp 55) (.tmp 59) 31 31 rfl 5 j0 (.int .u8 0) 1 1 Try.underlying31 hj jz0 jz1 jz2 rfl (by decide) (.slice (some ⟨wX.heap.size, 0, none⟩) 0 0) 0 [] rfl (own_empty wX 5 1) _ p.length (p.map bv) rfl (src_slice Try.underlying31 (by simp) (hxaX.fr ((Fr.refl No _).alloc _) (fun _ _ _ _ _ _ x => x)) (by simp [Value.oneCell'])) (by omega) (by omega) ?_;
                  intro v12 wB hown12 hfr12 hblk12;
                  obtain ⟨a12, c12, hv12, hat12, _⟩ := hown12.at;
                  subst hv12;
                  rw [List.nil_append] at hat12;
                  have hfX : Fr (From wX.heap.size) wX wB := ((Fr.refl (From wX.heap.size) wX).alloc _).trans (hfr12.mono (fun b o _ e => by have e' : some wX.heap.size = some b := e; injection e' with e'; unfold From; omega));
                  have hb12 : ∀ b, (Value.slice a12 (0 + p.length) c12).ownBlock = some b → wX.heap.size ≤ b := (by
                    intro b e
                    rcases hblk12 with h | h
                    · rw [h] at e; have e' : some wX.heap.size = some b := e; injection e' with e'; omega
                    · rw [h] at e; injection e with e; simp at e; omega);
                  have HB12 : Hid (∀ n c b, (Value.slice a12 n c).ownBlock = some b → wX.heap.size ≤ b ∧ b < wB.heap.size) := Lib.hid (fun n c b e => by rw [ownBlock_len a12 n c (0 + p.length) c12] at e; exact ⟨hb12 b e, hown12.lt b e⟩);
                  have hstB := hst.step hfX (fun b o x => x);
                  have hcellB : wB.cell? ⟨g, off + k, none⟩ = some (.slice xa p.length c1) := (by rw [hstB.fr.cell _ _ hbw (fun x => x)]; exact hc1);
                  have hxaB := hxa.fr hstB.fr (fun _ _ _ _ _ _ x => x);
                  clear hcellX hb12 hblk12 hfr12)
            | (go_at_call 12;
                  refine (cut_failed _ _ _ _ _ hstB.spl).mono ?_;
                  rintro e wC ⟨rfl, rfl⟩;
                  have hcvl : ∀ n, (convert 31 9 (.slice xa p.length c1)).run Try.prog (wB.drewN n) = .ok (.string ⟨p.toArray⟩) (wB.drewN n) := (fun n => conv_at (P := Try.prog) (cap := c1) (hxaB.fr ((Fr.refl No wB).drewN n) (fun _ _ _ _ _ _ x => x)) (src := 31) (dst := 9) Try.underlying31 Try.underlying5 Try.underlying9);
                  have hcvb : ∀ n, (convert 31 9 (.slice a12 p.length c12)).run Try.prog (wB.drewN n) = .ok (.string ⟨p.toArray⟩) (wB.drewN n) := (fun n => conv_at (P := Try.prog) (cap := c12) (hat12.fr ((Fr.refl No wB).drewN n) (fun _ _ _ _ _ _ x => x)) (src := 31) (dst := 9) Try.underlying31 Try.underlying5 Try.underlying9)))
          go_quiet (fail)
          go_wp2
          have hpI : (p.length : Int) ≤ 8192 := by omega
          have own12 : ∃ q : List Value, OwnSl wB 5 1 (.slice a12 p.length c12) p.length q ∧ ∀ x ∈ q, ∃ n : Int, x = .int .u8 n := ⟨p.map bv, by
            simpa using hown12, fun x hx => by obtain ⟨y, _, rfl⟩ := List.mem_map.1 hx; exact ⟨_, rfl⟩⟩
          have OW := Lib.hid own12
          clear own12 hcvl hcvb hown12 hat12
          go_loopw [15] (fun i wr2 => ∃ j : Nat, j ≤ p.length ∧ i = .int .i64 j ∧ Fr (Blk (.slice a12 p.length c12)) wB wr2 ∧ ∃ q : List Value, OwnSl wr2 5 1 (.slice a12 p.length c12) p.length q ∧ ∀ x ∈ q, ∃ n : Int, x = .int .u8 n) (fun i _ => p.length - (intOf i).toNat)
          case atStart => exact ⟨0, Nat.zero_le _, rfl, (Fr.refl _ _).drewN nq, by
            obtain ⟨q, h1, h2⟩ := OW.out
            exact ⟨q, h1.fr ((Fr.refl No _).drewN nq) (fun _ _ _ x => x), h2⟩⟩
          case round =>
            obtain ⟨j, hjp, rfl, hfr2, q, hq, hq8⟩ := hrel
            by_cases hjl : j < p.length
            · obtain ⟨g2, o2, rfl, hcj, hfj⟩ := hq.get hjl
              obtain ⟨n8, hn8⟩ := hq8 (q.getD j undef) (by
                have : j < q.length := by rw [hq.1]; omega
                rw [List.getD_eq_getElem?_getD, List.getElem?_eq_getElem this]; exact List.getElem_mem _)
              rw [hn8] at hcj
              have HQ := Lib.hid hq
              have HQ8 := Lib.hid hq8
              clear hq hq8 hn8
              go_wp2
              go_roundw
              case rel => exact ⟨j + 1, by omega, by go_num, hfr2.setCell (fun _ => rfl) _, _, HQ.out.set hjl _, fun x hx => by
                rcases List.mem_or_eq_of_mem_set hx with h | h
                · exact HQ8.out x h
                · exact ⟨_, h⟩⟩
              case measure => simp [intOf]; omega
            · obtain rfl : j = p.length := by omega
              have hstD := hstB.step2 hfr2 (fun b o x => by have := HB12.out _ _ _ x; have := hst.rs.lt; have := hst.spl.lt; exact ⟨by omega, by omega, by have := hst.fr.size; omega, fun e => by have := hst.rs.own.lt b e; omega⟩)
              have hcellD : wr.cell? ⟨g, off + k, none⟩ = some (.slice xa p.length c1) := by rw [hstD.fr.cell _ _ hbw (fun x => x)]; exact hc1
              have hapn := joined_le2 ps k
              clear hq hq8 hcellB
              go_wp2_with (first
                | (go_at_call 13;
                      refine (rcut_failed _ _ _ _ _ _ hstD.rs).mono ?_;
                      rintro e wE ⟨rfl, rfl⟩)
                | (go_at_call 14;
                      refine (same_true _ _ _ _ _ _ [] _ rfl rfl (At.nil _ _) (At.nil _ _) (by simp)).mono ?_;
                      rintro e wF ⟨rfl, hfrF⟩;
                      have hstF := hstD.step hfrF (fun _ _ x => x.elim);
                      have hn1 := hstF.spl.n;
                      rw [List.length_nil] at hn1)
                | (go_at_call 15;
                      refine (begun_any _ _ _ _ hn1).mono ?_;
                      rintro e wG ⟨rfl, rfl⟩))
              go_roundw
              case rel => exact ⟨k + 1, [], _, _, _, true, by omega, by go_num, hstF, Nat.le_trans hal hapn⟩
              case measure => simp [intOf]; omega
      | false =>
      cases hbit : (bits BinOp.and IntKind.u64 (r / 2 ^ (k % 64)) 1 == 1) with
      | false =>
        obtain ⟨wX, rfl⟩ : ∃ x, x = wr := ⟨_, rfl⟩
        have hxaX := hxa.fr hst.fr (fun _ _ _ _ _ _ x => x)
        have hcellX : wX.cell? ⟨g, off + k, none⟩ = some (.slice xa p.length c1) := by rw [hst.fr.cell _ _ hbw (fun x => x)]; exact hc1
        have hgX : g < wX.heap.size := World.block_lt_of_cell? wX _ hcellX
        have hll := cutM_len p cs []
        generalize hr : cutM p cs [] = r0 at *
        obtain ⟨l1, r1, f1⟩ := r0
        simp only [List.length_nil] at hll
        have HR := Lib.hid hr; clear hr
        cases f1 with
        | true =>
          obtain rfl : r1 = [] := by have := cutM_fail p cs []; rw [HR.out] at this; simpa using this
          go_wp2_with (first
            | (at_builtin;
                  refine wpList_append_sl rfl (.tmp 55) (.tmp 59) 31 31 rfl 5 j0 (.int .u8 0) 1 1 Try.underlying31 hj jz0 jz1 jz2 rfl (by decide) (.slice (some ⟨wX.heap.size, 0, none⟩) 0 0) 0 [] rfl (own_empty wX 5 1) _ p.length (p.map bv) rfl (src_slice Try.underlying31 (by simp) (hxaX.fr ((Fr.refl No _).alloc _) (fun _ _ _ _ _ _ x => x)) (by simp [Value.oneCell'])) (by omega) (by omega) ?_;
                  intro v12 wB hown12 hfr12 hblk12;
                  obtain ⟨a12, c12, hv12, hat12, _⟩ := hown12.at;
                  subst hv12;
                  rw [List.nil_append] at hat12;
                  have hfX : Fr (From wX.heap.size) wX wB := ((Fr.refl (From wX.heap.size) wX).alloc _).trans (hfr12.mono (fun b o _ e => by have e' : some wX.heap.size = some b := e; injection e' with e'; unfold From; omega));
                  have hb12 : ∀ b, (Value.slice a12 (0 + p.length) c12).ownBlock = some b → wX.heap.size ≤ b := (by
                    intro b e
                    rcases hblk12 with h | h
                    · rw [h] at e; have e' : some wX.heap.size = some b := e; injection e' with e'; omega
                    · rw [h] at e; injection e with e; simp at e; omega);
                  have HB12 : Hid (∀ n c b, (Value.slice a12 n c).ownBlock = some b → wX.heap.size ≤ b ∧ b < wB.heap.size) := Lib.hid (fun n c b e => by rw [ownBlock_len a12 n c (0 + p.length) c12] at e; exact ⟨hb12 b e, hown12.lt b e⟩);
                  have hstB := hst.step hfX (fun b o x => x);
                  have hcellB : wB.cell? ⟨g, off + k, none⟩ = some (.slice xa p.length c1) := (by rw [hstB.fr.cell _ _ hbw (fun x => x)]; exact hc1);
                  clear hcellX hb12 hblk12 hfr12)
            | (go_at_call 12;
                  refine (cut_calls _ _ _ _ _ _ _ _ hstB.spl (by simp) hat12 (fun g o e => by
                    left
                    have := HB12.out 0 0 g (by rw [e]; rfl)
                    have := hst.spl.lt
                    omega) (by omega)).mono ?_;
                  rw [HR.out];
                  rintro e wC ⟨v13, rfl, hown13, hspl13, hfr13⟩;
                  obtain ⟨a13, c13, hv13, ha13, hb13⟩ := at_of_own hown13;
                  subst hv13;
                  dsimp only at *;
                  have HB13 := Lib.hid hb13;
                  have hrsC := hstB.rs.fr hfr13 (fun o x => by have := x.1; omega) (fun b o e x => by have := x.1; have := hstB.ob b e; omega);
                  have hfrC := hstB.fr.step hfr13 (fun i o hi x => by have := x.1; omega);
                  have hxaC := hxa.fr hfrC (fun _ _ _ _ _ _ x => x);
                  have hcellC : wC.cell? ⟨g, off + k, none⟩ = some (.slice xa p.length c1) := (by rw [hfrC.cell _ _ hbw (fun x => x)]; exact hc1);
                  have hat12C := hat12.fr hfr13 (fun g o e _ i _ x => by have := x.1; have := HB12.out 0 0 g (by rw [e]; rfl); have := hst.spl.lt; omega);
                  have hcvl : ∀ n, (convert 31 9 (.slice xa p.length c1)).run Try.prog (wC.drewN n) = .ok (.string ⟨p.toArray⟩) (wC.drewN n) := (fun n => conv_at (P := Try.prog) (cap := c1) (hxaC.fr ((Fr.refl No wC).drewN n) (fun _ _ _ _ _ _ x => x)) (src := 31) (dst := 9) Try.underlying31 Try.underlying5 Try.underlying9);
                  have hcvb : ∀ n, (convert 31 9 (.slice a12 p.length c12)).run Try.prog (wC.drewN n) = .ok (.string ⟨p.toArray⟩) (wC.drewN n) := (fun n => conv_at (P := Try.prog) (cap := c12) (hat12C.fr ((Fr.refl No wC).drewN n) (fun _ _ _ _ _ _ x => x)) (src := 31) (dst := 9) Try.underlying31 Try.underlying5 Try.underlying9);
                  clear hb13 hown13 hcellB))
          go_quiet (fail)
          go_wp2
          have hpI : (p.length : Int) ≤ 8192 := by omega
          have own12 : ∃ q : List Value, OwnSl wC 5 1 (.slice a12 p.length c12) p.length q ∧ ∀ x ∈ q, ∃ n : Int, x = .int .u8 n := ⟨p.map bv, by
            have := hown12.fr hfr13 (fun b o e x => by have := x.1; have := HB12.out _ _ b e; have := hst.spl.lt; omega)
            simpa using this, fun x hx => by obtain ⟨y, _, rfl⟩ := List.mem_map.1 hx; exact ⟨_, rfl⟩⟩
          have OW := Lib.hid own12
          clear own12 hcvl hcvb hown12 hat12
          go_loopw [15] (fun i wr2 => ∃ j : Nat, j ≤ p.length ∧ i = .int .i64 j ∧ Fr (Blk (.slice a12 p.length c12)) wC wr2 ∧ ∃ q : List Value, OwnSl wr2 5 1 (.slice a12 p.length c12) p.length q ∧ ∀ x ∈ q, ∃ n : Int, x = .int .u8 n) (fun i _ => p.length - (intOf i).toNat)
          case atStart => exact ⟨0, Nat.zero_le _, rfl, (Fr.refl _ _).drewN nq, by
            obtain ⟨q, h1, h2⟩ := OW.out
            exact ⟨q, h1.fr ((Fr.refl No _).drewN nq) (fun _ _ _ x => x), h2⟩⟩
          case round =>
            obtain ⟨j, hjp, rfl, hfr2, q, hq, hq8⟩ := hrel
            by_cases hjl : j < p.length
            · obtain ⟨g2, o2, rfl, hcj, hfj⟩ := hq.get hjl
              obtain ⟨n8, hn8⟩ := hq8 (q.getD j undef) (by
                have : j < q.length := by rw [hq.1]; omega
                rw [List.getD_eq_getElem?_getD, List.getElem?_eq_getElem this]; exact List.getElem_mem _)
              rw [hn8] at hcj
              have HQ := Lib.hid hq
              have HQ8 := Lib.hid hq8
              clear hq hq8 hn8
              go_wp2
              go_roundw
              case rel => exact ⟨j + 1, by omega, by go_num, hfr2.setCell (fun _ => rfl) _, _, HQ.out.set hjl _, fun x hx => by
                rcases List.mem_or_eq_of_mem_set hx with h | h
                · exact HQ8.out x h
                · exact ⟨_, h⟩⟩
              case measure => simp [intOf]; omega
            · obtain rfl : j = p.length := by omega
              have hrsD := hrsC.fr hfr2 (fun o x => by have := HB12.out _ _ _ x; have := hst.rs.lt; omega) (fun b o e x => by have := HB12.out _ _ _ x; have := hst.rs.own.lt b e; omega)
              have hsplD := hspl13.fr hfr2 (fun i _ x => by have := HB12.out _ _ _ x; have := hst.spl.lt; omega)
              have hfrD := hfrC.step hfr2 (fun i o hi x => by have := HB12.out _ _ _ x; have := hst.fr.size; omega)
              have hxaD := hxa.fr hfrD (fun _ _ _ _ _ _ x => x)
              have ha13D := ha13.fr hfr2 (fun g o e _ i _ x => by have := HB13.out g o e; have := HB12.out _ _ _ x; omega)
              have hcellD : wr.cell? ⟨g, off + k, none⟩ = some (.slice xa p.length c1) := by rw [hfrD.cell _ _ hbw (fun x => x)]; exact hc1
              have hA : cutM (all ++ p) [] [] = (ls ++ l1, [], true) := by
                rw [cutM_app, hst.M, if_neg (by simp), cutM_acc, HR.out]
              have HA := Lib.hid hA; clear hA
              have hapl : (all ++ p).length ≤ 100000000 := by rw [List.length_append]; omega
              have hapn : (all ++ p).length ≤ (ps.take (k + 1)).flatten.length := by rw [List.length_append, hfl]; omega
              have hnum : (ls ++ l1).length - ls.length = l1.length := by simp
              clear hq hq8 hcellC hxaC hrsC
              go_wp2_with (first
                | (go_at_call 13;
                      refine (rcut_any _ _ _ _ _ _ _ _ hrsD hxaD hapl (by rw [HA.out]; simp)).mono ?_;
                      rw [HA.out];
                      rintro e wE ⟨v17, a16, c16, rfl, hat16, hb16, hrs16, hfr16, hblk16⟩;
                      dsimp only at *;
                      rw [hnum];
                      rw [List.drop_left' rfl] at hat16;
                      have ha13E := ha13D.fr hfr16 (fun g o e _ i _ x => by have h1 := HB13.out g o e; have h2 := hst.rs.lt; have h3 := hstB.fr.size; have h4 := hst.fr.size; rcases x with x | x; (have := hstB.rs.lt; omega); (have := hstB.rs.own.lt _ x; omega));
                      have hsplE := hsplD.fr hfr16 (fun i _ x => by rcases x with x | x; omega; (have := hst.ob _ x; omega));
                      have hfrE := hfrD.step hfr16 (fun i o hi x => by rcases x with x | x; omega; (have := hst.ob _ x; omega));
                      clear ha13D hsplD hrsD hxaD hcellD hfrD)
                | (go_at_call 14;
                      refine (same_true _ _ _ _ _ _ l1 _ rfl rfl ha13E hat16 (by omega)).mono ?_;
                      rintro e wF ⟨rfl, hfrF⟩;
                      have hsplF := hsplE.fr hfrF (fun _ _ x => x);
                      have hrsF := hrs16.fr hfrF (fun _ x => x) (fun _ _ _ x => x);
                      have hn1 := hsplF.n;
                      have HE := Lib.hid hfrE;
                      clear ha13E hat16 hsplE hrs16 hfrE)
                | (go_at_call 15;
                      refine (begun_any _ _ _ _ hn1).mono ?_;
                      rintro e wG ⟨rfl, rfl⟩)
                | (go_at_call 16;
                      refine (rbegun_any _ _ _ _ _ _ hrsF hapl).mono ?_;
                      rw [HA.out];
                      rintro e wG ⟨rfl, hfrG⟩))
              go_roundw
              case rel =>
                have hob : ∀ g, v17.ownBlock = some g → w.heap.size + 1 < g := by
                  intro g e
                  rcases hblk16 with h | h
                  · rw [h] at e; exact hst.ob g e
                  · rw [h] at e; injection e with e; have := hst.rs.lt; have := hst.fr.size; have := hfX.size; have := hfr13.size; have := hfr2.size; omega
                have hC : CSt w wF [] (all ++ p) v17 (ls ++ l1) true := ⟨hsplF, hrsF, hob, HA.out, HE.out.trans hfrF⟩
                exact ⟨k + 1, [], all ++ p, v17, ls ++ l1, true, by omega, by go_num, hC, hapn⟩
              case measure => simp [intOf]; omega
        | false =>
          go_wp2_with (first
            | (at_builtin;
                  refine wpList_append_sl rfl (.tmp 55) (.tmp 59) 31 31 rfl 5 j0 (.int .u8 0) 1 1 Try.underlying31 hj jz0 jz1 jz2 rfl (by decide) (.slice (some ⟨wX.heap.size, 0, none⟩) 0 0) 0 [] rfl (own_empty wX 5 1) _ p.length (p.map bv) rfl (src_slice Try.underlying31 (by simp) (hxaX.fr ((Fr.refl No _).alloc _) (fun _ _ _ _ _ _ x => x)) (by simp [Value.oneCell'])) (by omega) (by omega) ?_;
                  intro v12 wB hown12 hfr12 hblk12;
                  obtain ⟨a12, c12, hv12, hat12, _⟩ := hown12.at;
                  subst hv12;
                  rw [List.nil_append] at hat12;
                  have hfX : Fr (From wX.heap.size) wX wB := ((Fr.refl (From wX.heap.size) wX).alloc _).trans (hfr12.mono (fun b o _ e => by have e' : some wX.heap.size = some b := e; injection e' with e'; unfold From; omega));
                  have hb12 : ∀ b, (Value.slice a12 (0 + p.length) c12).ownBlock = some b → wX.heap.size ≤ b := (by
                    intro b e
                    rcases hblk12 with h | h
                    · rw [h] at e; have e' : some wX.heap.size = some b := e; injection e' with e'; omega
                    · rw [h] at e; injection e with e; simp at e; omega);
                  have HB12 : Hid (∀ n c b, (Value.slice a12 n c).ownBlock = some b → wX.heap.size ≤ b ∧ b < wB.heap.size) := Lib.hid (fun n c b e => by rw [ownBlock_len a12 n c (0 + p.length) c12] at e; exact ⟨hb12 b e, hown12.lt b e⟩);
                  have hstB := hst.step hfX (fun b o x => x);
                  have hcellB : wB.cell? ⟨g, off + k, none⟩ = some (.slice xa p.length c1) := (by rw [hstB.fr.cell _ _ hbw (fun x => x)]; exact hc1);
                  clear hcellX hb12 hblk12 hfr12)
            | (go_at_call 12;
                  refine (cut_calls _ _ _ _ _ _ _ _ hstB.spl (by simp) hat12 (fun g o e => by
                    left
                    have := HB12.out 0 0 g (by rw [e]; rfl)
                    have := hst.spl.lt
                    omega) (by omega)).mono ?_;
                  rw [HR.out];
                  rintro e wC ⟨v13, rfl, hown13, hspl13, hfr13⟩;
                  obtain ⟨a13, c13, hv13, ha13, hb13⟩ := at_of_own hown13;
                  subst hv13;
                  dsimp only at *;
                  have HB13 := Lib.hid hb13;
                  have hrsC := hstB.rs.fr hfr13 (fun o x => by have := x.1; omega) (fun b o e x => by have := x.1; have := hstB.ob b e; omega);
                  have hfrC := hstB.fr.step hfr13 (fun i o hi x => by have := x.1; omega);
                  have hxaC := hxa.fr hfrC (fun _ _ _ _ _ _ x => x);
                  have hcellC : wC.cell? ⟨g, off + k, none⟩ = some (.slice xa p.length c1) := (by rw [hfrC.cell _ _ hbw (fun x => x)]; exact hc1);
                  have hat12C := hat12.fr hfr13 (fun g o e _ i _ x => by have := x.1; have := HB12.out 0 0 g (by rw [e]; rfl); have := hst.spl.lt; omega);
                  have hcvl : ∀ n, (convert 31 9 (.slice xa p.length c1)).run Try.prog (wC.drewN n) = .ok (.string ⟨p.toArray⟩) (wC.drewN n) := (fun n => conv_at (P := Try.prog) (cap := c1) (hxaC.fr ((Fr.refl No wC).drewN n) (fun _ _ _ _ _ _ x => x)) (src := 31) (dst := 9) Try.underlying31 Try.underlying5 Try.underlying9);
                  have hcvb : ∀ n, (convert 31 9 (.slice a12 p.length c12)).run Try.prog (wC.drewN n) = .ok (.string ⟨p.toArray⟩) (wC.drewN n) := (fun n => conv_at (P := Try.prog) (cap := c12) (hat12C.fr ((Fr.refl No wC).drewN n) (fun _ _ _ _ _ _ x => x)) (src := 31) (dst := 9) Try.underlying31 Try.underlying5 Try.underlying9);
                  clear hb13 hown13 hcellB))
          go_quiet (fail)
          go_wp2
          have hpI : (p.length : Int) ≤ 8192 := by omega
          have own12 : ∃ q : List Value, OwnSl wC 5 1 (.slice a12 p.length c12) p.length q ∧ ∀ x ∈ q, ∃ n : Int, x = .int .u8 n := ⟨p.map bv, by
            have := hown12.fr hfr13 (fun b o e x => by have := x.1; have := HB12.out _ _ b e; have := hst.spl.lt; omega)
            simpa using this, fun x hx => by obtain ⟨y, _, rfl⟩ := List.mem_map.1 hx; exact ⟨_, rfl⟩⟩
          have OW := Lib.hid own12
          clear own12 hcvl hcvb hown12 hat12
          go_loopw [15] (fun i wr2 => ∃ j : Nat, j ≤ p.length ∧ i = .int .i64 j ∧ Fr (Blk (.slice a12 p.length c12)) wC wr2 ∧ ∃ q : List Value, OwnSl wr2 5 1 (.slice a12 p.length c12) p.length q ∧ ∀ x ∈ q, ∃ n : Int, x = .int .u8 n) (fun i _ => p.length - (intOf i).toNat)
          case atStart => exact ⟨0, Nat.zero_le _, rfl, (Fr.refl _ _).drewN nq, by
            obtain ⟨q, h1, h2⟩ := OW.out
            exact ⟨q, h1.fr ((Fr.refl No _).drewN nq) (fun _ _ _ x => x), h2⟩⟩
          case round =>
            obtain ⟨j, hjp, rfl, hfr2, q, hq, hq8⟩ := hrel
            by_cases hjl : j < p.length
            · obtain ⟨g2, o2, rfl, hcj, hfj⟩ := hq.get hjl
              obtain ⟨n8, hn8⟩ := hq8 (q.getD j undef) (by
                have : j < q.length := by rw [hq.1]; omega
                rw [List.getD_eq_getElem?_getD, List.getElem?_eq_getElem this]; exact List.getElem_mem _)
              rw [hn8] at hcj
              have HQ := Lib.hid hq
              have HQ8 := Lib.hid hq8
              clear hq hq8 hn8
              go_wp2
              go_roundw
              case rel => exact ⟨j + 1, by omega, by go_num, hfr2.setCell (fun _ => rfl) _, _, HQ.out.set hjl _, fun x hx => by
                rcases List.mem_or_eq_of_mem_set hx with h | h
                · exact HQ8.out x h
                · exact ⟨_, h⟩⟩
              case measure => simp [intOf]; omega
            · obtain rfl : j = p.length := by omega
              have hrsD := hrsC.fr hfr2 (fun o x => by have := HB12.out _ _ _ x; have := hst.rs.lt; omega) (fun b o e x => by have := HB12.out _ _ _ x; have := hst.rs.own.lt b e; omega)
              have hsplD := hspl13.fr hfr2 (fun i _ x => by have := HB12.out _ _ _ x; have := hst.spl.lt; omega)
              have hfrD := hfrC.step hfr2 (fun i o hi x => by have := HB12.out _ _ _ x; have := hst.fr.size; omega)
              have hxaD := hxa.fr hfrD (fun _ _ _ _ _ _ x => x)
              have ha13D := ha13.fr hfr2 (fun g o e _ i _ x => by have := HB13.out g o e; have := HB12.out _ _ _ x; omega)
              have hcellD : wr.cell? ⟨g, off + k, none⟩ = some (.slice xa p.length c1) := by rw [hfrD.cell _ _ hbw (fun x => x)]; exact hc1
              have hA : cutM (all ++ p) [] [] = (ls ++ l1, r1, false) := by
                rw [cutM_app, hst.M, if_neg (by simp), cutM_acc, HR.out]
              have HA := Lib.hid hA; clear hA
              have hapl : (all ++ p).length ≤ 100000000 := by rw [List.length_append]; omega
              have hapn : (all ++ p).length ≤ (ps.take (k + 1)).flatten.length := by rw [List.length_append, hfl]; omega
              have hnum : (ls ++ l1).length - ls.length = l1.length := by simp
              clear hq hq8 hcellC hxaC hrsC
              go_wp2_with (first
                | (go_at_call 13;
                      refine (rcut_any _ _ _ _ _ _ _ _ hrsD hxaD hapl (by rw [HA.out]; simp)).mono ?_;
                      rw [HA.out];
                      rintro e wE ⟨v17, a16, c16, rfl, hat16, hb16, hrs16, hfr16, hblk16⟩;
                      dsimp only at *;
                      rw [hnum];
                      rw [List.drop_left' rfl] at hat16;
                      have ha13E := ha13D.fr hfr16 (fun g o e _ i _ x => by have h1 := HB13.out g o e; have h2 := hst.rs.lt; have h3 := hstB.fr.size; have h4 := hst.fr.size; rcases x with x | x; (have := hstB.rs.lt; omega); (have := hstB.rs.own.lt _ x; omega));
                      have hsplE := hsplD.fr hfr16 (fun i _ x => by rcases x with x | x; omega; (have := hst.ob _ x; omega));
                      have hfrE := hfrD.step hfr16 (fun i o hi x => by rcases x with x | x; omega; (have := hst.ob _ x; omega));
                      clear ha13D hsplD hrsD hxaD hcellD hfrD)
                | (go_at_call 14;
                      refine (same_true _ _ _ _ _ _ l1 _ rfl rfl ha13E hat16 (by omega)).mono ?_;
                      rintro e wF ⟨rfl, hfrF⟩;
                      have hsplF := hsplE.fr hfrF (fun _ _ x => x);
                      have hrsF := hrs16.fr hfrF (fun _ x => x) (fun _ _ _ x => x);
                      have hn1 := hsplF.n;
                      have HE := Lib.hid hfrE;
                      clear ha13E hat16 hsplE hrs16 hfrE)
                | (go_at_call 15;
                      refine (begun_any _ _ _ _ hn1).mono ?_;
                      rintro e wG ⟨rfl, rfl⟩)
                | (go_at_call 16;
                      refine (rbegun_any _ _ _ _ _ _ hrsF hapl).mono ?_;
                      rw [HA.out];
                      rintro e wG ⟨rfl, hfrG⟩))
              go_roundw
              case rel =>
                have hob : ∀ g, v17.ownBlock = some g → w.heap.size + 1 < g := by
                  intro g e
                  rcases hblk16 with h | h
                  · rw [h] at e; exact hst.ob g e
                  · rw [h] at e; injection e with e; have := hst.rs.lt; have := hst.fr.size; have := hfX.size; have := hfr13.size; have := hfr2.size; omega
                have hC : CSt w wF r1 (all ++ p) v17 (ls ++ l1) false := ⟨hsplF, hrsF, hob, HA.out, HE.out.trans hfrF⟩
                exact ⟨k + 1, r1, all ++ p, v17, ls ++ l1, false, by omega, by go_num, hC.step hfrG (fun _ _ x => x.elim), hapn⟩
              case measure => simp [intOf]; omega
      | true =>
        have HM := Lib.hid hst.M
        have hll := cutM_len p [] []
        generalize hr : cutM p [] [] = r0 at *
        obtain ⟨l1, r1, f1⟩ := r0
        simp only [List.length_nil] at hll
        have HR := Lib.hid hr; clear hr
        cases f1 with
        | true =>
          obtain rfl : r1 = [] := by have := cutM_fail p [] []; rw [HR.out] at this; simpa using this
          go_wp2_with (first
            | (go_at_call 10;
                  refine (rest_calls _ _ _ _ _ hst.spl).mono ?_;
                  rintro e wY ⟨rfl, hsplY, hfrY⟩;
                  have hY := hst.rest1 hfrY;
                  obtain ⟨hrsY, hfrY2⟩ := hY)
            | (go_at_call 11;
                  refine (rrest_any _ _ _ _ _ _ hrsY (by omega)).mono ?_;
                  rw [HM.out];
                  rintro e wX ⟨rfl, hfrX, hRX⟩;
                  dsimp only at hRX;
                  obtain ⟨all', v', ls', hst', hal'⟩ := hst.rest2 hsplY hfrY2 hfrX hRX;
                  have hal := Nat.le_trans hal' hal;
                  have hst := hst';
                  clear hst' hal' hRX hfrX hfrY hfrY2 hrsY hsplY;
                  have hxaX := hxa.fr hst.fr (fun _ _ _ _ _ _ x => x);
                  have hcellX : wX.cell? ⟨g, off + k, none⟩ = some (.slice xa p.length c1) := (by rw [hst.fr.cell _ _ hbw (fun x => x)]; exact hc1);
                  have hgX : g < wX.heap.size := World.block_lt_of_cell? wX _ hcellX)
            | (at_builtin;
                  refine wpList_append_sl rfl (.tmp 55) (.tmp 59) 31 31 rfl 5 j0 (.int .u8 0) 1 1 Try.underlying31 hj jz0 jz1 jz2 rfl (by decide) (.slice (some ⟨wX.heap.size, 0, none⟩) 0 0) 0 [] rfl (own_empty wX 5 1) _ p.length (p.map bv) rfl (src_slice Try.underlying31 (by simp) (hxaX.fr ((Fr.refl No _).alloc _) (fun _ _ _ _ _ _ x => x)) (by simp [Value.oneCell'])) (by omega) (by omega) ?_;
                  intro v12 wB hown12 hfr12 hblk12;
                  obtain ⟨a12, c12, hv12, hat12, _⟩ := hown12.at;
                  subst hv12;
                  rw [List.nil_append] at hat12;
                  have hfX : Fr (From wX.heap.size) wX wB := ((Fr.refl (From wX.heap.size) wX).alloc _).trans (hfr12.mono (fun b o _ e => by have e' : some wX.heap.size = some b := e; injection e' with e'; unfold From; omega));
                  have hb12 : ∀ b, (Value.slice a12 (0 + p.length) c12).ownBlock = some b → wX.heap.size ≤ b := (by
                    intro b e
                    rcases hblk12 with h | h
                    · rw [h] at e; have e' : some wX.heap.size = some b := e; injection e' with e'; omega
                    · rw [h] at e; injection e with e; simp at e; omega);
                  have HB12 : Hid (∀ n c b, (Value.slice a12 n c).ownBlock = some b → wX.heap.size ≤ b ∧ b < wB.heap.size) := Lib.hid (fun n c b e => by rw [ownBlock_len a12 n c (0 + p.length) c12] at e; exact ⟨hb12 b e, hown12.lt b e⟩);
                  have hstB := hst.step hfX (fun b o x => x);
                  have hcellB : wB.cell? ⟨g, off + k, none⟩ = some (.slice xa p.length c1) := (by rw [hstB.fr.cell _ _ hbw (fun x => x)]; exact hc1);
                  clear hcellX hb12 hblk12 hfr12)
            | (go_at_call 12;
                  refine (cut_calls _ _ _ _ _ _ _ _ hstB.spl (by simp) hat12 (fun g o e => by
                    left
                    have := HB12.out 0 0 g (by rw [e]; rfl)
                    have := hst.spl.lt
                    omega) (by omega)).mono ?_;
                  rw [HR.out];
                  rintro e wC ⟨v13, rfl, hown13, hspl13, hfr13⟩;
                  obtain ⟨a13, c13, hv13, ha13, hb13⟩ := at_of_own hown13;
                  subst hv13;
                  dsimp only at *;
                  have HB13 := Lib.hid hb13;
                  have hrsC := hstB.rs.fr hfr13 (fun o x => by have := x.1; omega) (fun b o e x => by have := x.1; have := hstB.ob b e; omega);
                  have hfrC := hstB.fr.step hfr13 (fun i o hi x => by have := x.1; omega);
                  have hxaC := hxa.fr hfrC (fun _ _ _ _ _ _ x => x);
                  have hcellC : wC.cell? ⟨g, off + k, none⟩ = some (.slice xa p.length c1) := (by rw [hfrC.cell _ _ hbw (fun x => x)]; exact hc1);
                  have hat12C := hat12.fr hfr13 (fun g o e _ i _ x => by have := x.1; have := HB12.out 0 0 g (by rw [e]; rfl); have := hst.spl.lt; omega);
                  have hcvl : ∀ n, (convert 31 9 (.slice xa p.length c1)).run Try.prog (wC.drewN n) = .ok (.string ⟨p.toArray⟩) (wC.drewN n) := (fun n => conv_at (P := Try.prog) (cap := c1) (hxaC.fr ((Fr.refl No wC).drewN n) (fun _ _ _ _ _ _ x => x)) (src := 31) (dst := 9) Try.underlying31 Try.underlying5 Try.underlying9);
                  have hcvb : ∀ n, (convert 31 9 (.slice a12 p.length c12)).run Try.prog (wC.drewN n) = .ok (.string ⟨p.toArray⟩) (wC.drewN n) := (fun n => conv_at (P := Try.prog) (cap := c12) (hat12C.fr ((Fr.refl No wC).drewN n) (fun _ _ _ _ _ _ x => x)) (src := 31) (dst := 9) Try.underlying31 Try.underlying5 Try.underlying9);
                  clear hb13 hown13 hcellB))
          go_quiet (fail)
          go_wp2
          have hpI : (p.length : Int) ≤ 8192 := by omega
          have own12 : ∃ q : List Value, OwnSl wC 5 1 (.slice a12 p.length c12) p.length q ∧ ∀ x ∈ q, ∃ n : Int, x = .int .u8 n := ⟨p.map bv, by
            have := hown12.fr hfr13 (fun b o e x => by have := x.1; have := HB12.out _ _ b e; have := hst.spl.lt; omega)
            simpa using this, fun x hx => by obtain ⟨y, _, rfl⟩ := List.mem_map.1 hx; exact ⟨_, rfl⟩⟩
          have OW := Lib.hid own12
          clear own12 hcvl hcvb hown12 hat12
          go_loopw [15] (fun i wr2 => ∃ j : Nat, j ≤ p.length ∧ i = .int .i64 j ∧ Fr (Blk (.slice a12 p.length c12)) wC wr2 ∧ ∃ q : List Value, OwnSl wr2 5 1 (.slice a12 p.length c12) p.length q ∧ ∀ x ∈ q, ∃ n : Int, x = .int .u8 n) (fun i _ => p.length - (intOf i).toNat)
          case atStart => exact ⟨0, Nat.zero_le _, rfl, (Fr.refl _ _).drewN nq, by
            obtain ⟨q, h1, h2⟩ := OW.out
            exact ⟨q, h1.fr ((Fr.refl No _).drewN nq) (fun _ _ _ x => x), h2⟩⟩
          case round =>
            obtain ⟨j, hjp, rfl, hfr2, q, hq, hq8⟩ := hrel
            by_cases hjl : j < p.length
            · obtain ⟨g2, o2, rfl, hcj, hfj⟩ := hq.get hjl
              obtain ⟨n8, hn8⟩ := hq8 (q.getD j undef) (by
                have : j < q.length := by rw [hq.1]; omega
                rw [List.getD_eq_getElem?_getD, List.getElem?_eq_getElem this]; exact List.getElem_mem _)
              rw [hn8] at hcj
              have HQ := Lib.hid hq
              have HQ8 := Lib.hid hq8
              clear hq hq8 hn8
              go_wp2
              go_roundw
              case rel => exact ⟨j + 1, by omega, by go_num, hfr2.setCell (fun _ => rfl) _, _, HQ.out.set hjl _, fun x hx => by
                rcases List.mem_or_eq_of_mem_set hx with h | h
                · exact HQ8.out x h
                · exact ⟨_, h⟩⟩
              case measure => simp [intOf]; omega
            · obtain rfl : j = p.length := by omega
              have hrsD := hrsC.fr hfr2 (fun o x => by have := HB12.out _ _ _ x; have := hst.rs.lt; omega) (fun b o e x => by have := HB12.out _ _ _ x; have := hst.rs.own.lt b e; omega)
              have hsplD := hspl13.fr hfr2 (fun i _ x => by have := HB12.out _ _ _ x; have := hst.spl.lt; omega)
              have hfrD := hfrC.step hfr2 (fun i o hi x => by have := HB12.out _ _ _ x; have := hst.fr.size; omega)
              have hxaD := hxa.fr hfrD (fun _ _ _ _ _ _ x => x)
              have ha13D := ha13.fr hfr2 (fun g o e _ i _ x => by have := HB13.out g o e; have := HB12.out _ _ _ x; omega)
              have hcellD : wr.cell? ⟨g, off + k, none⟩ = some (.slice xa p.length c1) := by rw [hfrD.cell _ _ hbw (fun x => x)]; exact hc1
              have hA : cutM (all' ++ p) [] [] = (ls' ++ l1, [], true) := by
                rw [cutM_app, hst.M, if_neg (by simp), cutM_acc, HR.out]
              have HA := Lib.hid hA; clear hA
              have hapl : (all' ++ p).length ≤ 100000000 := by rw [List.length_append]; omega
              have hapn : (all' ++ p).length ≤ (ps.take (k + 1)).flatten.length := by rw [List.length_append, hfl]; omega
              have hnum : (ls' ++ l1).length - ls'.length = l1.length := by simp
              clear hq hq8 hcellC hxaC hrsC
              go_wp2_with (first
                | (go_at_call 13;
                      refine (rcut_any _ _ _ _ _ _ _ _ hrsD hxaD hapl (by rw [HA.out]; simp)).mono ?_;
                      rw [HA.out];
                      rintro e wE ⟨v17, a16, c16, rfl, hat16, hb16, hrs16, hfr16, hblk16⟩;
                      dsimp only at *;
                      rw [hnum];
                      rw [List.drop_left' rfl] at hat16;
                      have ha13E := ha13D.fr hfr16 (fun g o e _ i _ x => by have h1 := HB13.out g o e; have h2 := hst.rs.lt; have h3 := hstB.fr.size; have h4 := hst.fr.size; rcases x with x | x; (have := hstB.rs.lt; omega); (have := hstB.rs.own.lt _ x; omega));
                      have hsplE := hsplD.fr hfr16 (fun i _ x => by rcases x with x | x; omega; (have := hst.ob _ x; omega));
                      have hfrE := hfrD.step hfr16 (fun i o hi x => by rcases x with x | x; omega; (have := hst.ob _ x; omega));
                      clear ha13D hsplD hrsD hxaD hcellD hfrD)
                | (go_at_call 14;
                      refine (same_true _ _ _ _ _ _ l1 _ rfl rfl ha13E hat16 (by omega)).mono ?_;
                      rintro e wF ⟨rfl, hfrF⟩;
                      have hsplF := hsplE.fr hfrF (fun _ _ x => x);
                      have hrsF := hrs16.fr hfrF (fun _ x => x) (fun _ _ _ x => x);
                      have hn1 := hsplF.n;
                      have HE := Lib.hid hfrE;
                      clear ha13E hat16 hsplE hrs16 hfrE)
                | (go_at_call 15;
                      refine (begun_any _ _ _ _ hn1).mono ?_;
                      rintro e wG ⟨rfl, rfl⟩)
                | (go_at_call 16;
                      refine (rbegun_any _ _ _ _ _ _ hrsF hapl).mono ?_;
                      rw [HA.out];
                      rintro e wG ⟨rfl, hfrG⟩))
              go_roundw
              case rel =>
                have hob : ∀ g, v17.ownBlock = some g → w.heap.size + 1 < g := by
                  intro g e
                  rcases hblk16 with h | h
                  · rw [h] at e; exact hst.ob g e
                  · rw [h] at e; injection e with e; have := hst.rs.lt; have := hst.fr.size; have := hfX.size; have := hfr13.size; have := hfr2.size; omega
                have hC : CSt w wF [] (all' ++ p) v17 (ls' ++ l1) true := ⟨hsplF, hrsF, hob, HA.out, HE.out.trans hfrF⟩
                exact ⟨k + 1, [], all' ++ p, v17, ls' ++ l1, true, by omega, by go_num, hC, hapn⟩
              case measure => simp [intOf]; omega
        | false =>
          go_wp2_with (first
            | (go_at_call 10;
                  refine (rest_calls _ _ _ _ _ hst.spl).mono ?_;
                  rintro e wY ⟨rfl, hsplY, hfrY⟩;
                  have hY := hst.rest1 hfrY;
                  obtain ⟨hrsY, hfrY2⟩ := hY)
            | (go_at_call 11;
                  refine (rrest_any _ _ _ _ _ _ hrsY (by omega)).mono ?_;
                  rw [HM.out];
                  rintro e wX ⟨rfl, hfrX, hRX⟩;
                  dsimp only at hRX;
                  obtain ⟨all', v', ls', hst', hal'⟩ := hst.rest2 hsplY hfrY2 hfrX hRX;
                  have hal := Nat.le_trans hal' hal;
                  have hst := hst';
                  clear hst' hal' hRX hfrX hfrY hfrY2 hrsY hsplY;
                  have hxaX := hxa.fr hst.fr (fun _ _ _ _ _ _ x => x);
                  have hcellX : wX.cell? ⟨g, off + k, none⟩ = some (.slice xa p.length c1) := (by rw [hst.fr.cell _ _ hbw (fun x => x)]; exact hc1);
                  have hgX : g < wX.heap.size := World.block_lt_of_cell? wX _ hcellX)
            | (at_builtin;
                  refine wpList_append_sl rfl (.tmp 55) (.tmp 59) 31 31 rfl 5 j0 (.int .u8 0) 1 1 Try.underlying31 hj jz0 jz1 jz2 rfl (by decide) (.slice (some ⟨wX.heap.size, 0, none⟩) 0 0) 0 [] rfl (own_empty wX 5 1) _ p.length (p.map bv) rfl (src_slice Try.underlying31 (by simp) (hxaX.fr ((Fr.refl No _).alloc _) (fun _ _ _ _ _ _ x => x)) (by simp [Value.oneCell'])) (by omega) (by omega) ?_;
                  intro v12 wB hown12 hfr12 hblk12;
                  obtain ⟨a12, c12, hv12, hat12, _⟩ := hown12.at;
                  subst hv12;
                  rw [List.nil_append] at hat12;
                  have hfX : Fr (From wX.heap.size) wX wB := ((Fr.refl (From wX.heap.size) wX).alloc _).trans (hfr12.mono (fun b o _ e => by have e' : some wX.heap.size = some b := e; injection e' with e'; unfold From; omega));
                  have hb12 : ∀ b, (Value.slice a12 (0 + p.length) c12).ownBlock = some b → wX.heap.size ≤ b := (by
                    intro b e
                    rcases hblk12 with h | h
                    · rw [h] at e; have e' : some wX.heap.size = some b := e; injection e' with e'; omega
                    · rw [h] at e; injection e with e; simp at e; omega);
                  have HB12 : Hid (∀ n c b, (Value.slice a12 n c).ownBlock = some b → wX.heap.size ≤ b ∧ b < wB.heap.size) := Lib.hid (fun n c b e => by rw [ownBlock_len a12 n c (0 + p.length) c12] at e; exact ⟨hb12 b e, hown12.lt b e⟩);
                  have hstB := hst.step hfX (fun b o x => x);
                  have hcellB : wB.cell? ⟨g, off + k, none⟩ = some (.slice xa p.length c1) := (by rw [hstB.fr.cell _ _ hbw (fun x => x)]; exact hc1);
                  clear hcellX hb12 hblk12 hfr12)
            | (go_at_call 12;
                  refine (cut_calls _ _ _ _ _ _ _ _ hstB.spl (by simp) hat12 (fun g o e => by
                    left
                    have := HB12.out 0 0 g (by rw [e]; rfl)
                    have := hst.spl.lt
                    omega) (by omega)).mono ?_;
                  rw [HR.out];
                  rintro e wC ⟨v13, rfl, hown13, hspl13, hfr13⟩;
                  obtain ⟨a13, c13, hv13, ha13, hb13⟩ := at_of_own hown13;
                  subst hv13;
                  dsimp only at *;
                  have HB13 := Lib.hid hb13;
                  have hrsC := hstB.rs.fr hfr13 (fun o x => by have := x.1; omega) (fun b o e x => by have := x.1; have := hstB.ob b e; omega);
                  have hfrC := hstB.fr.step hfr13 (fun i o hi x => by have := x.1; omega);
                  have hxaC := hxa.fr hfrC (fun _ _ _ _ _ _ x => x);
                  have hcellC : wC.cell? ⟨g, off + k, none⟩ = some (.slice xa p.length c1) := (by rw [hfrC.cell _ _ hbw (fun x => x)]; exact hc1);
                  have hat12C := hat12.fr hfr13 (fun g o e _ i _ x => by have := x.1; have := HB12.out 0 0 g (by rw [e]; rfl); have := hst.spl.lt; omega);
                  have hcvl : ∀ n, (convert 31 9 (.slice xa p.length c1)).run Try.prog (wC.drewN n) = .ok (.string ⟨p.toArray⟩) (wC.drewN n) := (fun n => conv_at (P := Try.prog) (cap := c1) (hxaC.fr ((Fr.refl No wC).drewN n) (fun _ _ _ _ _ _ x => x)) (src := 31) (dst := 9) Try.underlying31 Try.underlying5 Try.underlying9);
                  have hcvb : ∀ n, (convert 31 9 (.slice a12 p.length c12)).run Try.prog (wC.drewN n) = .ok (.string ⟨p.toArray⟩) (wC.drewN n) := (fun n => conv_at (P := Try.prog) (cap := c12) (hat12C.fr ((Fr.refl No wC).drewN n) (fun _ _ _ _ _ _ x => x)) (src := 31) (dst := 9) Try.underlying31 Try.underlying5 Try.underlying9);
                  clear hb13 hown13 hcellB))
          go_quiet (fail)
          go_wp2
          have hpI : (p.length : Int) ≤ 8192 := by omega
          have own12 : ∃ q : List Value, OwnSl wC 5 1 (.slice a12 p.length c12) p.length q ∧ ∀ x ∈ q, ∃ n : Int, x = .int .u8 n := ⟨p.map bv, by
            have := hown12.fr hfr13 (fun b o e x => by have := x.1; have := HB12.out _ _ b e; have := hst.spl.lt; omega)
            simpa using this, fun x hx => by obtain ⟨y, _, rfl⟩ := List.mem_map.1 hx; exact ⟨_, rfl⟩⟩
          have OW := Lib.hid own12
          clear own12 hcvl hcvb hown12 hat12
          go_loopw [15] (fun i wr2 => ∃ j : Nat, j ≤ p.length ∧ i = .int .i64 j ∧ Fr (Blk (.slice a12 p.length c12)) wC wr2 ∧ ∃ q : List Value, OwnSl wr2 5 1 (.slice a12 p.length c12) p.length q ∧ ∀ x ∈ q, ∃ n : Int, x = .int .u8 n) (fun i _ => p.length - (intOf i).toNat)
          case atStart => exact ⟨0, Nat.zero_le _, rfl, (Fr.refl _ _).drewN nq, by
            obtain ⟨q, h1, h2⟩ := OW.out
            exact ⟨q, h1.fr ((Fr.refl No _).drewN nq) (fun _ _ _ x => x), h2⟩⟩
          case round =>
            obtain ⟨j, hjp, rfl, hfr2, q, hq, hq8⟩ := hrel
            by_cases hjl : j < p.length
            · obtain ⟨g2, o2, rfl, hcj, hfj⟩ := hq.get hjl
              obtain ⟨n8, hn8⟩ := hq8 (q.getD j undef) (by
                have : j < q.length := by rw [hq.1]; omega
                rw [List.getD_eq_getElem?_getD, List.getElem?_eq_getElem this]; exact List.getElem_mem _)
              rw [hn8] at hcj
              have HQ := Lib.hid hq
              have HQ8 := Lib.hid hq8
              clear hq hq8 hn8
              go_wp2
              go_roundw
              case rel => exact ⟨j + 1, by omega, by go_num, hfr2.setCell (fun _ => rfl) _, _, HQ.out.set hjl _, fun x hx => by
                rcases List.mem_or_eq_of_mem_set hx with h | h
                · exact HQ8.out x h
                · exact ⟨_, h⟩⟩
              case measure => simp [intOf]; omega
            · obtain rfl : j = p.length := by omega
              have hrsD := hrsC.fr hfr2 (fun o x => by have := HB12.out _ _ _ x; have := hst.rs.lt; omega) (fun b o e x => by have := HB12.out _ _ _ x; have := hst.rs.own.lt b e; omega)
              have hsplD := hspl13.fr hfr2 (fun i _ x => by have := HB12.out _ _ _ x; have := hst.spl.lt; omega)
              have hfrD := hfrC.step hfr2 (fun i o hi x => by have := HB12.out _ _ _ x; have := hst.fr.size; omega)
              have hxaD := hxa.fr hfrD (fun _ _ _ _ _ _ x => x)
              have ha13D := ha13.fr hfr2 (fun g o e _ i _ x => by have := HB13.out g o e; have := HB12.out _ _ _ x; omega)
              have hcellD : wr.cell? ⟨g, off + k, none⟩ = some (.slice xa p.length c1) := by rw [hfrD.cell _ _ hbw (fun x => x)]; exact hc1
              have hA : cutM (all' ++ p) [] [] = (ls' ++ l1, r1, false) := by
                rw [cutM_app, hst.M, if_neg (by simp), cutM_acc, HR.out]
              have HA := Lib.hid hA; clear hA
              have hapl : (all' ++ p).length ≤ 100000000 := by rw [List.length_append]; omega
              have hapn : (all' ++ p).length ≤ (ps.take (k + 1)).flatten.length := by rw [List.length_append, hfl]; omega
              have hnum : (ls' ++ l1).length - ls'.length = l1.length := by simp
              clear hq hq8 hcellC hxaC hrsC
              go_wp2_with (first
                | (go_at_call 13;
                      refine (rcut_any _ _ _ _ _ _ _ _ hrsD hxaD hapl (by rw [HA.out]; simp)).mono ?_;
                      rw [HA.out];
                      rintro e wE ⟨v17, a16, c16, rfl, hat16, hb16, hrs16, hfr16, hblk16⟩;
                      dsimp only at *;
                      rw [hnum];
                      rw [List.drop_left' rfl] at hat16;
                      have ha13E := ha13D.fr hfr16 (fun g o e _ i _ x => by have h1 := HB13.out g o e; have h2 := hst.rs.lt; have h3 := hstB.fr.size; have h4 := hst.fr.size; rcases x with x | x; (have := hstB.rs.lt; omega); (have := hstB.rs.own.lt _ x; omega));
                      have hsplE := hsplD.fr hfr16 (fun i _ x => by rcases x with x | x; omega; (have := hst.ob _ x; omega));
                      have hfrE := hfrD.step hfr16 (fun i o hi x => by rcases x with x | x; omega; (have := hst.ob _ x; omega));
                      clear ha13D hsplD hrsD hxaD hcellD hfrD)
                | (go_at_call 14;
                      refine (same_true _ _ _ _ _ _ l1 _ rfl rfl ha13E hat16 (by omega)).mono ?_;
                      rintro e wF ⟨rfl, hfrF⟩;
                      have hsplF := hsplE.fr hfrF (fun _ _ x => x);
                      have hrsF := hrs16.fr hfrF (fun _ x => x) (fun _ _ _ x => x);
                      have hn1 := hsplF.n;
                      have HE := Lib.hid hfrE;
                      clear ha13E hat16 hsplE hrs16 hfrE)
                | (go_at_call 15;
                      refine (begun_any _ _ _ _ hn1).mono ?_;
                      rintro e wG ⟨rfl, rfl⟩)
                | (go_at_call 16;
                      refine (rbegun_any _ _ _ _ _ _ hrsF hapl).mono ?_;
                      rw [HA.out];
                      rintro e wG ⟨rfl, hfrG⟩))
              go_roundw
              case rel =>
                have hob : ∀ g, v17.ownBlock = some g → w.heap.size + 1 < g := by
                  intro g e
                  rcases hblk16 with h | h
                  · rw [h] at e; exact hst.ob g e
                  · rw [h] at e; injection e with e; have := hst.rs.lt; have := hst.fr.size; have := hfX.size; have := hfr13.size; have := hfr2.size; omega
                have hC : CSt w wF r1 (all' ++ p) v17 (ls' ++ l1) false := ⟨hsplF, hrsF, hob, HA.out, HE.out.trans hfrF⟩
                exact ⟨k + 1, r1, all' ++ p, v17, ls' ++ l1, false, by omega, by go_num, hC.step hfrG (fun _ _ x => x.elim), hapn⟩
              case measure => simp [intOf]; omega
    · obtain rfl : k = ps.length := by omega
      go_wp2_with (go_at_call 9; refine (awake_any _).mono ?_; rintro e w1 ⟨rfl, hfr⟩)
      go_ret
      exact ⟨rfl, hst.fr.trans hfr⟩
end Go.Proofs.Ytmjmaffbnejccaa
