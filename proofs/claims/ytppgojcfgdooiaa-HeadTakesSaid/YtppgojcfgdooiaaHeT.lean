/- The meanings' told: what comes of one input that has ended. -/
import Derived.Test.YtppgojcfgdooiaaHeIf
import Derived.Test.YtppgojcfgdooiaaCopyP
import Derived.Laws.ResultCell
import Derived.Deep.WholeRow
import Derived.Deep.RegionHeld3
namespace Go.Proofs.Ytppgojcfgdooiaa
open Go.RowKit

theorem info_told : (Try.prog.info? 61).map (fun i => (i.zero, i.size, i.bytes)) = some (some (.agg #[.slice none 0 0, .bool false, .int .i64 0, .int .i64 0, .int .i64 0]), 5, 56) := by kernel_rfl
theorem results_cell_tmp_row {P : Program} {fn : Func} {p u : Tmp} {ty : TypeId} (h : fn.results = #[.cell p ty, .tmp u]) (tmps : Array Value) (w : World) (g : Nat) (t : TypeId) (cs : Array Value) (fr : Nat × Nat) (d : TypeDesc) (v2 : Value)
    (hp : tmps.getD p undef = .pointer (some ⟨g, 0, none⟩)) (hv : tmps.getD u undef = v2) (hg : w.heap[g]? = some (.cells cs t fr)) (hu : P.underlying ty = some d) (hd : (match d with | .struct _ | .array _ _ => true | _ => false) = true) (hi : (P.info? ty).map (·.size) = some cs.size) :
    (results fn tmps).run P w = .ok (.tuple #[.agg cs, v2]) w := by
  rw [results_cell_tmp h, hp, hv]
  simp [asAddr, Result.andThen, run_loadVar_row w g t ty cs fr d hg hu hd hi]
def TookM (R : World → (Nat → Prop) → SM → Prop) (n : Int) (A B : List UInt8) (F : Nat → Prop) (r : List UInt8 × Int × Int) (taken : Nat) (w : World) (e : Ending) (w' : World) : Prop :=
  ∃ (held : Int) (s' : SM) (F' : Nat → Prop), e = .returned (.agg (gotC r.1 r.2.1 r.2.2 held taken)) ∧ 0 ≤ held ∧ held ≤ bndR 3 n A B ∧ R w' F' s' ∧ Fr (InF F) w w' ∧ ∀ b, F' b → F b ∨ w.heap.size ≤ b
theorem drive_T (g : Nat) (n : Int) (A B : List UInt8) (h : chkR 3 n A B = 0)
    (ig ioff ic : Nat) (ba : Option Addr) (bc : Nat) (b : List UInt8) (ended : Bool) (ec es ei : Int) (ca : Option Addr) (cc : Nat) (cuts : List Int) (F : Nat → Prop) (w : World)
    (hR : RM g n A B w F (startM n A B)) (hi : Row w ig ioff (strmC ba b bc ended ec es ei)) (hiF : ¬ F ig) (hb : At w ba (b.map bv)) (hbF : 0 < b.length → ∀ x off, ba = some ⟨x, off, none⟩ → ¬ F x) (hbl : b.length ≤ 90000) (hbc : b.length ≤ bc)
    (hc : At w ca (cuts.map iv)) (hcF : 0 < cuts.length → ∀ x off, ca = some ⟨x, off, none⟩ → ¬ F x) (hcl : cuts.length ≤ 100000) :
    Calls Try.prog 17 #[.iface 74 (.pointer (some ⟨g, 0, none⟩)), .slice (some ⟨ig, ioff, none⟩) 1 ic, .slice ca cuts.length cc] w (TookM (RM g n A B) n A B F (saysM n A B b ended) (drive (modM n A B) b ended cuts (startM n A B)).taken w) := by
  refine (drive_any (machM g n A B h) ig ioff ic ba bc b ended ec es ei ca cc cuts (startM n A B) F w hR hi hiF hb hbF hbl hbc hc hcF hcl).mono ?_
  rintro e w' ⟨F', rfl, hr, hf, hF⟩
  have hfound := foundM n A B h b ended cuts hbl
  generalize drive (modM n A B) b ended cuts (startM n A B) = d at *
  refine ⟨d.held, d.m, F', ?_, hfound.held0, hfound.held, hr, hf, hF⟩
  rw [hfound.out, hfound.need, hfound.err]
def TookPost (o : List UInt8) (taken : Nat) (w : World) (e : Ending) (w' : World) : Prop :=
  ∃ held : Int, e = .returned (.tuple #[.agg (gotC o (-1) 0 held taken), .bool true]) ∧ Fr No w w'
set_option maxHeartbeats 4000000 in
set_option maxRecDepth 100000 in
theorem told_took (n : Int) (aA aB : Option Addr) (A B : List UInt8) (cA cB : Nat) (w : World) (hA : At w aA (A.map bv)) (hB : At w aB (B.map bv)) (hlA : A.length ≤ 100000000) (hlB : B.length ≤ 100000000) (hck : chkR 3 n A B = 0) (hfk : fchk 3 3 n A B = 0)
    (ca : Option Addr) (cc : Nat) (cuts : List Int) (hc : At w ca (cuts.map iv)) (hcl : cuts.length ≤ 100000) (gi ci : Nat) (ia : Option Addr) (ic : Nat) (b : List UInt8) (hin : w.cell? ⟨gi, 0, none⟩ = some (.slice ia b.length ic)) (hb : At w ia (b.map bv)) (hbl : b.length ≤ 90000) (hbc : b.length ≤ ic)
    (o : List UInt8) (hsay : saysM n A B b true = (o, -1, 0)) (taken : Nat) (htk : (drive (modM n A B) b true cuts (startM n A B)).taken = taken) :
    Calls Try.prog 25 #[.agg #[.int .i64 3, .int .i64 n, .slice aA A.length cA, .slice aB B.length cB], .slice ca cuts.length cc, .slice (some ⟨gi, 0, none⟩) 1 ci] w (TookPost o taken w) := by
  obtain ⟨i0, hi, hz0, hz1, hz2⟩ := info_parts info_told
  have HA := Lib.hid hA; have HB := Lib.hid hB; have HC := Lib.hid hc; have HI := Lib.hid hb; have HCK := Lib.hid hck; have HFK := Lib.hid hfk; have HSAY := Lib.hid hsay; have HTK := Lib.hid htk; clear htk
  have hgil := World.block_lt_of_cell? w _ hin
  have HIN := Lib.hid (fun (W : World) (f : Fr No w W) => (f.at.1 gi 0 hgil).trans hin)
  have hsz : (Try.prog.info? 42).map (·.size) = some 12 := by kernel_rfl
  have HSZ := Lib.hid hsz
  clear hA hB hc hb hck hfk hsay hin hsz
  have HW0 := Lib.hid (((Fr.refl No w).alloc (.cells #[.int .i64 3, .int .i64 n, .slice aA A.length cA, .slice aB B.length cB] 24)).alloc (.cells (gotC [] 0 0 0 0) 42))
  have HBX := Lib.hid (fun (W : World) (f : Fr No ((w.alloc (.cells #[.int .i64 3, .int .i64 n, .slice aA A.length cA, .slice aB B.length cB] 24)).alloc (.cells (gotC [] 0 0 0 0) 42)) W) =>
    (show (W.cell? ⟨w.heap.size, 0, none⟩ = some (.int .i64 3) ∧ W.cell? ⟨w.heap.size, 1, none⟩ = some (.int .i64 n) ∧ W.cell? ⟨w.heap.size, 2, none⟩ = some (.slice aA A.length cA) ∧ W.cell? ⟨w.heap.size, 3, none⟩ = some (.slice aB B.length cB)) ∧ W.heap[w.heap.size + 1]? = some (.cells (gotC [] 0 0 0 0) 42) from
      have x1 := (box_at (((Fr.refl No _).alloc _).trans f)).1
      ⟨⟨x1 0, x1 1, x1 2, x1 3⟩, by have := box_block f; simpa using this⟩))
  go_enter Try.func25, Try.ntmps25
  go_wp2
  go_loopw [8, 9] (fun v i wr => (i = .int .i64 0 ∧ v = .slice none 0 0 ∧ Hid (Fr No ((w.alloc (.cells #[.int .i64 3, .int .i64 n, .slice aA A.length cA, .slice aB B.length cB] 24)).alloc (.cells (gotC [] 0 0 0 0) 42)) wr)) ∨ (i = .int .i64 1 ∧ ∃ g off cl, v = .slice (some ⟨g, off, none⟩) 1 cl ∧ Hid (Row wr g off (strmC ia b ic true 0 0 0)) ∧ Hid (Fr No ((w.alloc (.cells #[.int .i64 3, .int .i64 n, .slice aA A.length cA, .slice aB B.length cB] 24)).alloc (.cells (gotC [] 0 0 0 0) 42)) wr))) (fun _ i _ => 1 - (intOf i).toNat)
  case atStart => exact .inl ⟨rfl, rfl, Lib.hid (Fr.refl _ _)⟩
  case round =>
    rcases hrel with ⟨rfl, rfl, HF⟩ | ⟨rfl, gs, os, cl, rfl, HR, HF⟩
    · have c0 := HIN.out _ (HW0.out.trans HF.out)
      go_wp2_with (first
        | (at_builtin; refine wpList_append_sl rfl (.tmp 19) (.tmp 25) 36 36 rfl 61 i0 (.agg #[.slice none 0 0, .bool false, .int .i64 0, .int .i64 0, .int .i64 0]) 5 56 Try.underlying36 hi hz0 hz1 hz2 rfl (by decide) (.slice none 0 0) 0 [] rfl (OwnSl.nil _ _ _) _ 1 (strmC ia b ic true 0 0 0) rfl (src_slice Try.underlying36 rfl (fun _ => ⟨wr.heap.size, 0, rfl, row_at wr _ _ rfl _ rfl 61 (0, 0)⟩) (by simp [strmC, Value.oneCell'])) (by omega) (by omega) ?_
           intro v3 w3 hown3 hfr3 hblk3
           have HO3 := Lib.hid hown3; have HF3 := Lib.hid hfr3
           clear hown3 hfr3 hblk3))
      go_roundw
      case rel =>
        have h3 := HO3.out
        rw [Nat.zero_add, List.nil_append] at h3
        rcases h3.2 with ⟨_, h0⟩ | ⟨g, off, cl, cur, rfl, hg, h1, h2, h4, hr⟩
        · cases h0
        · exact .inr ⟨by go_num, g, off, cl, rfl, Lib.hid hr, Lib.hid ((HF.out.alloc _).step HF3.out (fun x o hx h => by simp [Blk, Value.ownBlock] at h))⟩
      case measure => simp [intOf]
    · have KW := Lib.hid (HW0.out.trans HF.out)
      obtain ⟨⟨p0, p1, p2, p3⟩, _⟩ := HBX.out _ HF.out
      have hgsl := HR.out.lt (by simp [strmC])
      go_wp2_with (first
        | (go_at_call 13; refine (copy_any 3 n aA aB A B cA cB _ (at_no HA.out KW.out) (at_no HB.out KW.out) hlA hlB).mono ?_; rintro e4 w4 ⟨a', c', b', d', rfl, ha', hb', hf4⟩
           have HA' := Lib.hid ha'; have HB' := Lib.hid hb'; have HF4 := Lib.hid hf4; clear ha' hb' hf4)
        | (go_at_call 14; refine (newM_yes n a' b' A B c' d' _ HA'.out HB'.out hlA hlB HFK.out).mono ?_; rintro e5 w5 ⟨g, F, rfl, hg, hr5, hf5⟩
           have HR5 := Lib.hid hr5; have HF5 := Lib.hid hf5; have HG := Lib.hid hg; clear hr5 hf5 hg)
        | (go_at_call 17; refine (drive_T g n A B HCK.out gs os cl ia ic b true 0 0 0 ca cc cuts F _ HR5.out (HR.out.fr (HF4.out.trans HF5.out) (fun _ _ x => x)) (fun e => by have h5 := HG.out _ e; have h6 := HF4.out.size; omega)
              (at_no HI.out ((KW.out.trans HF4.out).trans HF5.out)) (fun h0 x off e hF => by obtain ⟨x', o', e', hr⟩ := HI.out (by simpa using h0); rw [e'] at e; injection e with e; injection e with e; subst e; have h1 := hr.lt (by simpa using h0); have h2 := KW.out.size; have h3 := HF4.out.size; have h5 := HG.out _ hF; omega) hbl hbc
              (at_no HC.out ((KW.out.trans HF4.out).trans HF5.out)) (fun h0 x off e hF => by obtain ⟨x', o', e', hr⟩ := HC.out (by simpa using h0); rw [e'] at e; injection e with e; injection e with e; subst e; have h1 := hr.lt (by simpa using h0); have h2 := KW.out.size; have h3 := HF4.out.size; have h5 := HG.out _ hF; omega) hcl).mono ?_
           rw [HSAY.out, HTK.out]
           rintro e6 w6 ⟨held, s', F', rfl, h0, hH, hr6, hf6, _⟩
           dsimp only [gotC]
           have hsz6 := hf6.size
           have HG6 := Lib.hid (show w6.heap[w.heap.size + 1]? = some (.cells (gotC [] 0 0 0 0) 42) from
             have hk := HF.out.size
             have hk4 := HF4.out.size
             (hf6.block _ (by have := HF5.out.size; simp at hk; omega) (fun _ e => by have h5 := HG.out _ e; simp at hk; omega)).trans (HBX.out _ ((HF.out.trans HF4.out).trans HF5.out)).2)
           have KW6 := Lib.hid (show Fr No w w6 from ((KW.out.trans HF4.out).trans HF5.out).step hf6 (fun y o hy e => by have h5 := HG.out _ e; have h2 := KW.out.size; have h3 := HF4.out.size; omega))
           have hwl : w.heap.size + 1 < w6.heap.size := (by have hk := HF.out.size; have hk4 := HF4.out.size; have hk5 := HF5.out.size; simp at hk; omega)
           clear hr6 hf6))
      have H12 := Lib.hid (fun (W : World) (f : Fr No (w6.alloc (.cells (gotC o (-1) 0 held taken) 42)) W) => (show W.cell? ⟨w6.heap.size, 0, none⟩ = some (sv o) ∧ W.cell? ⟨w6.heap.size, 1, none⟩ = some (sv []) ∧ W.cell? ⟨w6.heap.size, 2, none⟩ = some (sv []) ∧ W.cell? ⟨w6.heap.size, 3, none⟩ = some (sv []) ∧ W.cell? ⟨w6.heap.size, 4, none⟩ = some (.int .i64 (-1)) ∧ W.cell? ⟨w6.heap.size, 5, none⟩ = some (.int .i64 0) ∧ W.cell? ⟨w6.heap.size, 6, none⟩ = some (.int .i64 held) ∧ W.cell? ⟨w6.heap.size, 7, none⟩ = some (.int .i64 taken) ∧ W.cell? ⟨w6.heap.size, 8, none⟩ = some (.int .i64 0) ∧ W.cell? ⟨w6.heap.size, 9, none⟩ = some (.int .i64 0) ∧ W.cell? ⟨w6.heap.size, 10, none⟩ = some (.int .i64 0) ∧ W.cell? ⟨w6.heap.size, 11, none⟩ = some (.bool false) from
        have x2 := (box_at f).1
        ⟨x2 0, x2 1, x2 2, x2 3, x2 4, x2 5, x2 6, x2 7, x2 8, x2 9, x2 10, x2 11⟩))
      have K6 := Lib.hid (KW6.out.alloc (.cells (gotC o (-1) 0 held taken) 42))
      have R6 : (w6.alloc (.cells (gotC o (-1) 0 held taken) 42)).drew.heap[w.heap.size + 1]? = some (.cells (gotC [] 0 0 0 0) 42 (0, 0)) := ((((Fr.refl No w6).alloc (.cells (gotC o (-1) 0 held taken) 42)).drew).block _ hwl (fun _ x => x)).trans HG6.out
      have HR6 := Lib.hid R6; clear R6
      have hS0 := H12.out _ (Fr.refl _ _).drew
      refine wp_region_noPanic ?_
      refine wp_region_held_drew (S := fun W => W.cell? ⟨w6.heap.size, 0, none⟩ = some (sv o) ∧ W.cell? ⟨w6.heap.size, 1, none⟩ = some (sv []) ∧ W.cell? ⟨w6.heap.size, 2, none⟩ = some (sv []) ∧ W.cell? ⟨w6.heap.size, 3, none⟩ = some (sv []) ∧ W.cell? ⟨w6.heap.size, 4, none⟩ = some (.int .i64 (-1)) ∧ W.cell? ⟨w6.heap.size, 5, none⟩ = some (.int .i64 0) ∧ W.cell? ⟨w6.heap.size, 6, none⟩ = some (.int .i64 held) ∧ W.cell? ⟨w6.heap.size, 7, none⟩ = some (.int .i64 taken) ∧ W.cell? ⟨w6.heap.size, 8, none⟩ = some (.int .i64 0) ∧ W.cell? ⟨w6.heap.size, 9, none⟩ = some (.int .i64 0) ∧ W.cell? ⟨w6.heap.size, 10, none⟩ = some (.int .i64 0) ∧ W.cell? ⟨w6.heap.size, 11, none⟩ = some (.bool false)) (by kernel_rfl) hS0 (fun hHeld => ?_)
      refine wpAnyH_take (i := 0) (oi := { dst := some 44, op := Op.load 42 (Operand.tmp 12), type := 42, pos := "meaning.go:20", after := #[], guard := none }) (v := ?_) rfl (by kernel_rfl) (by kernel_rfl) (by kernel_rfl) (fun _ _ _ h => h) (Or.inl ⟨by rfl, ?_⟩) (by assumption) ?_
      rotate_left
      · intro W hSw
        obtain ⟨s0, s1, s2, s3, s4, s5, s6, s7, s8, s9, s10, s11⟩ := hSw
        go_simp
        try with_reducible rfl
      simp only [Act.put, List.setIfInBounds_toArray, List.set_cons_zero, List.set_cons_succ]
      refine wpAnyH_take (i := 1) (oi := { dst := some 45, op := Op.fieldAddr 42 (Operand.tmp 12) 2, type := 0, pos := "meaning.go:20", after := #[], guard := none }) (v := ?_) rfl (by kernel_rfl) (by kernel_rfl) (by kernel_rfl) (fun _ _ _ h => h) (Or.inl ⟨by rfl, ?_⟩) (by assumption) ?_
      rotate_left
      · intro W hSw
        obtain ⟨s0, s1, s2, s3, s4, s5, s6, s7, s8, s9, s10, s11⟩ := hSw
        go_simp
        try with_reducible rfl
      simp only [Act.put, List.setIfInBounds_toArray, List.set_cons_zero, List.set_cons_succ]
      refine wpAnyH_take (i := 2) (oi := { dst := some 46, op := Op.load 27 (Operand.tmp 45), type := 27, pos := "meaning.go:20", after := #[{ on := 1, ground := Ground.data }], guard := none }) (v := ?_) rfl (by kernel_rfl) (by kernel_rfl) (by kernel_rfl) (fun _ _ _ h => h) (Or.inl ⟨by rfl, ?_⟩) (by assumption) ?_
      rotate_left
      · intro W hSw
        obtain ⟨s0, s1, s2, s3, s4, s5, s6, s7, s8, s9, s10, s11⟩ := hSw
        go_simp
        try with_reducible rfl
      simp only [Act.put, List.setIfInBounds_toArray, List.set_cons_zero, List.set_cons_succ]
      refine wpAnyH_take (i := 3) (oi := { dst := some 47, op := Op.binOp BinOp.eql 27 (Operand.tmp 46) (Operand.const (Value.int IntKind.i64 0)) 27, type := 4, pos := "meaning.go:20", after := #[{ on := 2, ground := Ground.data }], guard := none }) (v := ?_) rfl (by kernel_rfl) (by kernel_rfl) (by kernel_rfl) (fun _ _ _ h => h) (Or.inl ⟨by rfl, ?_⟩) (by assumption) ?_
      rotate_left
      · intro W hSw
        obtain ⟨s0, s1, s2, s3, s4, s5, s6, s7, s8, s9, s10, s11⟩ := hSw
        go_simp
        try with_reducible rfl
      simp only [Act.put, List.setIfInBounds_toArray, List.set_cons_zero, List.set_cons_succ]
      refine wpAnyH_take (i := 4) (oi := { dst := some 48, op := Op.move (Operand.tmp 47), type := 4, pos := "meaning.go:20", after := #[{ on := 3, ground := Ground.data }], guard := none }) (v := ?_) rfl (by kernel_rfl) (by kernel_rfl) (by kernel_rfl) (fun _ _ _ h => h) (Or.inl ⟨by rfl, ?_⟩) (by assumption) ?_
      rotate_left
      · intro W hSw
        obtain ⟨s0, s1, s2, s3, s4, s5, s6, s7, s8, s9, s10, s11⟩ := hSw
        go_simp
        try with_reducible rfl
      simp only [Act.put, List.setIfInBounds_toArray, List.set_cons_zero, List.set_cons_succ]
      refine wpAnyH_take (i := 5) (oi := { dst := some 49, op := Op.fieldAddr 42 (Operand.tmp 12) 1, type := 0, pos := "meaning.go:20", after := #[{ on := 4, ground := Ground.guard }], guard := some (4, true) }) (v := ?_) rfl (by kernel_rfl) (by kernel_rfl) (by kernel_rfl) (fun _ _ _ h => h) (Or.inl ⟨by rfl, ?_⟩) (by assumption) ?_
      rotate_left
      · intro W hSw
        obtain ⟨s0, s1, s2, s3, s4, s5, s6, s7, s8, s9, s10, s11⟩ := hSw
        go_simp
        try with_reducible rfl
      simp only [Act.put, List.setIfInBounds_toArray, List.set_cons_zero, List.set_cons_succ]
      refine wpAnyH_take (i := 6) (oi := { dst := some 50, op := Op.load 3 (Operand.tmp 49), type := 3, pos := "meaning.go:20", after := #[{ on := 5, ground := Ground.data }, { on := 4, ground := Ground.guard }], guard := some (4, true) }) (v := ?_) rfl (by kernel_rfl) (by kernel_rfl) (by kernel_rfl) (fun _ _ _ h => h) (Or.inl ⟨by rfl, ?_⟩) (by assumption) ?_
      rotate_left
      · intro W hSw
        obtain ⟨s0, s1, s2, s3, s4, s5, s6, s7, s8, s9, s10, s11⟩ := hSw
        go_simp
        try with_reducible rfl
      simp only [Act.put, List.setIfInBounds_toArray, List.set_cons_zero, List.set_cons_succ]
      refine wpAnyH_take (i := 7) (oi := { dst := some 51, op := Op.binOp BinOp.eql 3 (Operand.tmp 50) (Operand.const (Value.int IntKind.i64 (-1))) 3, type := 4, pos := "meaning.go:20", after := #[{ on := 6, ground := Ground.data }, { on := 4, ground := Ground.guard }], guard := some (4, true) }) (v := ?_) rfl (by kernel_rfl) (by kernel_rfl) (by kernel_rfl) (fun _ _ _ h => h) (Or.inl ⟨by rfl, ?_⟩) (by assumption) ?_
      rotate_left
      · intro W hSw
        obtain ⟨s0, s1, s2, s3, s4, s5, s6, s7, s8, s9, s10, s11⟩ := hSw
        go_simp
        try with_reducible rfl
      simp only [Act.put, List.setIfInBounds_toArray, List.set_cons_zero, List.set_cons_succ]
      refine wpAnyH_take (i := 8) (oi := { dst := some 52, op := Op.pick (Operand.tmp 48) (Operand.tmp 51) (Operand.const (Value.bool false)), type := 4, pos := "meaning.go:20", after := #[{ on := 4, ground := Ground.data }, { on := 7, ground := Ground.data }], guard := none }) (v := ?_) rfl (by kernel_rfl) (by kernel_rfl) (by kernel_rfl) (fun _ _ _ h => h) (Or.inl ⟨by rfl, ?_⟩) (by assumption) ?_
      rotate_left
      · intro W hSw
        obtain ⟨s0, s1, s2, s3, s4, s5, s6, s7, s8, s9, s10, s11⟩ := hSw
        go_simp
        try with_reducible rfl
      simp only [Act.put, List.setIfInBounds_toArray, List.set_cons_zero, List.set_cons_succ]
      refine wpAnyH_take (i := 9) (oi := { dst := some 53, op := Op.move (Operand.tmp 52), type := 4, pos := "meaning.go:20", after := #[{ on := 8, ground := Ground.data }, { on := 4, ground := Ground.chain }], guard := none }) (v := ?_) rfl (by kernel_rfl) (by kernel_rfl) (by kernel_rfl) (fun _ _ _ h => h) (Or.inl ⟨by rfl, ?_⟩) (by assumption) ?_
      rotate_left
      · intro W hSw
        obtain ⟨s0, s1, s2, s3, s4, s5, s6, s7, s8, s9, s10, s11⟩ := hSw
        go_simp
        try with_reducible rfl
      simp only [Act.put, List.setIfInBounds_toArray, List.set_cons_zero, List.set_cons_succ]
      refine wpAnyH_take (i := 10) (oi := { dst := some 54, op := Op.fieldAddr 42 (Operand.tmp 12) 5, type := 0, pos := "meaning.go:20", after := #[{ on := 9, ground := Ground.guard }, { on := 14, ground := Ground.gcOnly Departure.lateStores }], guard := some (9, true) }) (v := ?_) rfl (by kernel_rfl) (by kernel_rfl) (by kernel_rfl) (fun _ _ _ h => h) (Or.inl ⟨by rfl, ?_⟩) (by assumption) ?_
      rotate_left
      · intro W hSw
        obtain ⟨s0, s1, s2, s3, s4, s5, s6, s7, s8, s9, s10, s11⟩ := hSw
        go_simp
        try with_reducible rfl
      simp only [Act.put, List.setIfInBounds_toArray, List.set_cons_zero, List.set_cons_succ]
      refine wpAnyH_take (i := 11) (oi := { dst := some 55, op := Op.load 4 (Operand.tmp 54), type := 4, pos := "meaning.go:20", after := #[{ on := 10, ground := Ground.data }, { on := 9, ground := Ground.guard }, { on := 14, ground := Ground.gcOnly Departure.lateStores }], guard := some (9, true) }) (v := ?_) rfl (by kernel_rfl) (by kernel_rfl) (by kernel_rfl) (fun _ _ _ h => h) (Or.inl ⟨by rfl, ?_⟩) (by assumption) ?_
      rotate_left
      · intro W hSw
        obtain ⟨s0, s1, s2, s3, s4, s5, s6, s7, s8, s9, s10, s11⟩ := hSw
        go_simp
        try with_reducible rfl
      simp only [Act.put, List.setIfInBounds_toArray, List.set_cons_zero, List.set_cons_succ]
      refine wpAnyH_take (i := 12) (oi := { dst := some 56, op := Op.unOp UnOp.not 4 (Operand.tmp 55), type := 4, pos := "meaning.go:20", after := #[{ on := 11, ground := Ground.data }, { on := 9, ground := Ground.guard }, { on := 14, ground := Ground.gcOnly Departure.lateStores }], guard := some (9, true) }) (v := ?_) rfl (by kernel_rfl) (by kernel_rfl) (by kernel_rfl) (fun _ _ _ h => h) (Or.inl ⟨by rfl, ?_⟩) (by assumption) ?_
      rotate_left
      · intro W hSw
        obtain ⟨s0, s1, s2, s3, s4, s5, s6, s7, s8, s9, s10, s11⟩ := hSw
        go_simp
        try with_reducible rfl
      simp only [Act.put, List.setIfInBounds_toArray, List.set_cons_zero, List.set_cons_succ]
      refine wpAnyH_take (i := 13) (oi := { dst := some 57, op := Op.pick (Operand.tmp 53) (Operand.tmp 56) (Operand.const (Value.bool false)), type := 4, pos := "meaning.go:20", after := #[{ on := 9, ground := Ground.data }, { on := 12, ground := Ground.data }, { on := 14, ground := Ground.gcOnly Departure.lateStores }], guard := none }) (v := ?_) rfl (by kernel_rfl) (by kernel_rfl) (by kernel_rfl) (fun _ _ _ h => h) (Or.inl ⟨by rfl, ?_⟩) (by assumption) ?_
      rotate_left
      · intro W hSw
        obtain ⟨s0, s1, s2, s3, s4, s5, s6, s7, s8, s9, s10, s11⟩ := hSw
        go_simp
        try with_reducible rfl
      simp only [Act.put, List.setIfInBounds_toArray, List.set_cons_zero, List.set_cons_succ]
      refine wpAnyH_ready (rs := [14]) (by kernel_rfl) (by simp) ?_
      refine AllReadyH.cons (o := { dst := none, op := Op.store 42 (Operand.tmp 6) (Operand.tmp 44), type := 0, pos := "meaning.go:20", after := #[{ on := 0, ground := Ground.data }, { on := 9, ground := Ground.chain }, { on := 0, ground := Ground.phase }, { on := 1, ground := Ground.textOnly Departure.lateStores }, { on := 2, ground := Ground.textOnly Departure.lateStores }, { on := 3, ground := Ground.textOnly Departure.lateStores }, { on := 4, ground := Ground.textOnly Departure.lateStores }, { on := 5, ground := Ground.textOnly Departure.lateStores }, { on := 6, ground := Ground.textOnly Departure.lateStores }, { on := 7, ground := Ground.textOnly Departure.lateStores }, { on := 8, ground := Ground.textOnly Departure.lateStores }, { on := 9, ground := Ground.textOnly Departure.lateStores }, { on := 10, ground := Ground.textOnly Departure.lateStores }, { on := 11, ground := Ground.textOnly Departure.lateStores }, { on := 12, ground := Ground.textOnly Departure.lateStores }, { on := 13, ground := Ground.textOnly Departure.lateStores }], guard := none }) rfl (fun K hK => ?_) (AllReadyH.nil)
      rw [if_pos (by rfl)]
      refine wp_store_row 42 (.tmp 6) (.tmp 44) rfl (w.heap.size + 1) (gotC o (-1) 0 held taken) rfl rfl 42 (gotC [] 0 0 0 0) HR6.out HSZ.out rfl (by simp [gotC, Value.oneCell']) ?_
      have fset : Fr (fun x _ => x = w.heap.size + 1) (w6.alloc (.cells (gotC o (-1) 0 held taken) 42)).drew ((w6.alloc (.cells (gotC o (-1) 0 held taken) 42)).drew.setRow (w.heap.size + 1) (gotC o (-1) 0 held taken)) := (Fr.refl _ _).setRow _ _ (fun _ _ => rfl)
      obtain ⟨t0, t1, t2, t3, t4, t5, t6, t7, t8, t9, t10, t11⟩ := hS0
      have hne : w6.heap.size ≠ w.heap.size + 1 := by omega
      have hlt6 : w6.heap.size < (w6.alloc (.cells (gotC o (-1) 0 held taken) 42)).drew.heap.size := by simp
      refine hK.out _ _ ⟨(fset.cell _ 0 hlt6 (fun e => hne e)).trans t0, (fset.cell _ 1 hlt6 (fun e => hne e)).trans t1, (fset.cell _ 2 hlt6 (fun e => hne e)).trans t2, (fset.cell _ 3 hlt6 (fun e => hne e)).trans t3, (fset.cell _ 4 hlt6 (fun e => hne e)).trans t4, (fset.cell _ 5 hlt6 (fun e => hne e)).trans t5, (fset.cell _ 6 hlt6 (fun e => hne e)).trans t6, (fset.cell _ 7 hlt6 (fun e => hne e)).trans t7, (fset.cell _ 8 hlt6 (fun e => hne e)).trans t8, (fset.cell _ 9 hlt6 (fun e => hne e)).trans t9, (fset.cell _ 10 hlt6 (fun e => hne e)).trans t10, (fset.cell _ 11 hlt6 (fun e => hne e)).trans t11⟩ (fun hHeld => ?_)
      clear hK K
      refine wpAnyH_take (i := 15) (oi := { dst := some 7, op := Op.assign (Operand.tmp 57), type := 4, pos := "meaning.go:20", after := #[{ on := 13, ground := Ground.data }, { on := 14, ground := Ground.chain }, { on := 0, ground := Ground.phase }, { on := 1, ground := Ground.phase }, { on := 2, ground := Ground.phase }, { on := 3, ground := Ground.phase }, { on := 4, ground := Ground.phase }, { on := 5, ground := Ground.phase }, { on := 6, ground := Ground.phase }, { on := 7, ground := Ground.phase }, { on := 8, ground := Ground.phase }, { on := 9, ground := Ground.phase }, { on := 10, ground := Ground.phase }, { on := 11, ground := Ground.phase }, { on := 12, ground := Ground.phase }, { on := 13, ground := Ground.phase }, { on := 14, ground := Ground.phase }], guard := none }) (v := ?_) rfl (by kernel_rfl) (by kernel_rfl) (by kernel_rfl) (fun _ _ _ h => h) (Or.inl ⟨by rfl, ?_⟩) (by assumption) ?_
      rotate_left
      · intro W hSw
        go_simp
        try with_reducible rfl
      simp only [Act.put, List.setIfInBounds_toArray, List.set_cons_zero, List.set_cons_succ]
      refine wpAnyH_done (by kernel_rfl) ?_ _
      refine NoPanic.normal ?_
      go_wp2_with fail
      refine bodyPost_ret (v := .tuple #[.agg (gotC o (-1) 0 held taken), .bool true]) (results_cell_tmp_row (p := 6) (u := 7) (ty := 42) (by kernel_rfl) _ _ (w.heap.size + 1) 42 (gotC o (-1) 0 held taken) (0, 0) _ (.bool true) rfl rfl (setRow_heap _ (w.heap.size + 1) _ _ 42 _ HR6.out) Try.underlying42 rfl HSZ.out) rfl ⟨held, rfl, ?_⟩
      exact K6.out.drew.setRow _ _ (fun y h => by omega)
end Go.Proofs.Ytppgojcfgdooiaa
