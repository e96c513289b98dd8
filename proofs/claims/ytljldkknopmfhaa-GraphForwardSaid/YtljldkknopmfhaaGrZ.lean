/- GraphForward, walked. -/
import Derived.Test.YtljldkknopmfhaaGrX
import Derived.Maps.OwnSet
import Derived.Maps.OwnOps
namespace Go.Proofs.Ytljldkknopmfhaa
open Go.RowKit Go.Maps Go

noncomputable abbrev Pl : Value → Option (DataW Unit × List MemPlace) := plainElem Try.prog 3
theorem omap_fr {S : Nat → Nat → Prop} {w w' : World} {b n : Nat} {D : DataW Unit} (h : w.ownsMap Try.prog 3 Pl b n D) (f : Fr S w w') (hS : ∀ o, ¬ S b o) : w'.ownsMap Try.prog 3 Pl b n D := by
  have hb := h.lt
  obtain ⟨es, clock, h1, r⟩ := h
  exact ⟨es, clock, (f.block b hb hS).trans h1, r⟩
theorem turned_fr {w w' : World} {b : Nat} (h : w.mapTurned w' b) : Fr (fun x _ => x = b) w w' := by
  have hg := h.grown
  have hne : ∀ x, x < w.heap.size → x ≠ b → w'.heap[x]? = w.heap[x]? := fun x hx hn => hg.block x hx (fun e => hn (by injection e))
  exact ⟨hg.os, hg.tape, hg.output, hg.size, fun x o hx hs => World.cell?_of_block (w := w) (a := ⟨x, o, none⟩) (hne x hx hs), fun x o hx hs => World.frozen?_of_block (w := w) (a := ⟨x, o, none⟩) (hne x hx hs), fun x hx hs => hne x hx (hs 0)⟩
theorem keyI (no : Int) (hw : (Lit.int .i64 no).wf = true) : keyOf Try.prog 3 (.int .i64 no) = some (.int .i64 no) := keyOf_int_mk Try.underlying3 hw
theorem wf_nat {n : Nat} (h : n ≤ 1000) : (Lit.int .i64 (n : Int)).wf = true := by
  simp [Lit.wf, IntKind.min, IntKind.max, IntKind.signed, IntKind.bits]; omega
/-- The map, when k stages have been gone through. -/
structure MF (l : List Nat) (k : Nat) (D : DataW Unit) : Prop where
  pos : ∀ (p x : Nat), p < k → l[p]? = some x → D.atKey (.int .i64 (x : Int)) (.lit (.int .i64 0)) = .lit (.int .i64 ((p : Int) + 1))
  no : ∀ x : Nat, (∀ p, p < k → l[p]? ≠ some x) → Maps.has D (.int .i64 x) = false
  size : Maps.size D = k
theorem mf_start (l : List Nat) : MF l 0 (.map []) := ⟨fun p _ hp => absurd hp (by omega), fun _ _ => rfl, rfl⟩
theorem MF.next {l : List Nat} {k x : Nat} {D : DataW Unit} (h : MF l k D) (hx : l[k]? = some x) (hn : ∀ p, p < k → l[p]? ≠ some x) (ht : Tidy D) (hm : IsMap D) : MF l (k + 1) (D.put (.int .i64 x) (.lit (.int .i64 ((k : Int) + 1)))) := by
  refine ⟨fun p y hp hy => ?_, fun y hy => ?_, ?_⟩
  · by_cases e : p = k
    · subst e
      rw [hx] at hy; injection hy with hy; subst hy
      exact atKey_put_same hm (by simp [WideAt.IsKeyLit]) _ _
    · have hyx : y ≠ x := fun e2 => hn p (by omega) (by rw [hy, e2])
      rw [atKey_put_other (by simp; omega)]
      exact h.pos p y (by omega) hy
  · have hyx : y ≠ x := fun e => hy k (by omega) (by rw [hx, e])
    rw [has_put_other (by simp; omega)]
    exact h.no y fun p hp => hy p (by omega)
  · rw [size_put ht, h.no x hn, h.size]; simp
set_option maxHeartbeats 8000000 in
set_option maxRecDepth 100000 in
theorem core_graphForward (w : World) (x : Gv) (hx : x.Ok w) : Calls Try.prog 12 #[.agg #[.slice x.sa x.sp.length x.sc, .slice x.da x.du.length x.dc]] w (RndPost w true) := by
  have HB := Lib.hid (fun (W : World) (h : Fr No (w.alloc (.cells #[.slice x.sa x.sp.length x.sc, .slice x.da x.du.length x.dc] 63)) W) => gbox w x h)
  have HXB := Lib.hid (fun (W : World) (h : Fr No (w.alloc (.cells #[.slice x.sa x.sp.length x.sc, .slice x.da x.du.length x.dc] 63)) W) => hx.fr (((Fr.refl No w).alloc _).trans h))
  have HLO := Lib.hid (long_any (w.alloc (.cells #[.slice x.sa x.sp.length x.sc, .slice x.da x.du.length x.dc] 63)) x (HXB.out _ (Fr.refl _ _)))
  have K0 := Lib.hid ((Fr.refl No w).alloc (.cells #[.slice x.sa x.sp.length x.sc, .slice x.da x.du.length x.dc] 63))
  by_cases hsm : Sml x
  · rw [longB_no hsm] at HLO
    have HCK := Lib.hid (fun (W : World) (h : Fr No (w.alloc (.cells #[.slice x.sa x.sp.length x.sc, .slice x.da x.du.length x.dc] 63)) W) => check_graph W x (HXB.out W h) hsm)
    have HOR := Lib.hid (fun (W : World) (h : Fr No (w.alloc (.cells #[.slice x.sa x.sp.length x.sc, .slice x.da x.du.length x.dc] 63)) W) => order_graph W x (HXB.out W h) hsm)
    unfold CheckPost at HCK
    unfold OrderPost at HOR
    by_cases hck : x.g.check.2 = 0
    · have hwh := (check_ok x.g).1 hck
      have HWH := Lib.hid hwh
      have hn16 : x.sp.length ≤ 16 := by have := hwh.ns; rwa [x.st_len] at this
      have hd64 : x.du.length ≤ 64 := by have := hwh.nd; rwa [x.du_len] at this
      have hol : x.g.orderL = x.g.order.map fun (n : Nat) => (n : Int) := if_pos hck
      have holn : x.g.orderL.length = x.sp.length := by rw [hol, List.length_map, (order_ok hwh).len, x.st_len]
      have hoa : ∀ k, k < x.sp.length → ∃ s : Nat, x.g.order[k]? = some s ∧ x.g.orderL[k]? = some (s : Int) ∧ s < x.sp.length ∧ ∀ p, p < k → x.g.order[p]? ≠ some s := fun k hk => by
        obtain ⟨s, h1, h2, _⟩ := order_at hwh (q := k) (by rw [x.st_len]; exact hk)
        rw [x.st_len] at h1
        exact ⟨s, h2, by rw [hol, List.getElem?_map, h2]; rfl, h1, fun p hp e => by have := order_inj hwh e h2; omega⟩
      have HOA := Lib.hid hoa
      have HFW := Lib.hid (fun (d : Dct) (hd : d ∈ x.du) => order_forward hwh (d := d) hd)
      have hends := Lib.hid (fun (d : Dct) (hd : d ∈ x.du) => hwh.toLaid.ends d hd)
      have hdc := Lib.hid hx.dc
      rw [holn, hck] at HOR
      rw [hck] at HCK
      clear hck hsm hwh hx hol hoa
      generalize x.g.orderL = L at *
      have hLn : (L.length : Int) ≤ 16 := by omega
      have HLN := Lib.hid holn
      clear holn
      have hmm := @run_makeMap Try.prog
      go_enter Try.func12, Try.ntmps12
      go_wp2_with (first
        | (go_at_call 41; refine HLO.out.mono ?_; rintro e w1 ⟨rfl, hf1⟩
           have HF1 := Lib.hid hf1
           obtain ⟨c0, c1⟩ := HB.out _ hf1
           clear hf1)
        | (go_at_call 47; refine (HOR.out _ HF1.out).mono ?_; rintro e w2 ⟨la, lc, rfl, hat2, hf2⟩
           have HF2 := Lib.hid (HF1.out.trans hf2); have HA2 := Lib.hid hat2
           clear c0 c1 hat2
           obtain ⟨c0, c1⟩ := HB.out _ HF2.out
           clear hf2)
        | (go_at_call 44; refine (HCK.out _ HF2.out).mono ?_; rintro e w3 ⟨rfl, hf3⟩
           have HF3 := Lib.hid (HF2.out.trans hf3); have HA3 := Lib.hid (at_keep HA2.out hf3)
           clear hf3 c0 c1))
      have HM0 := Lib.hid ((World.ownsMap_made w3 Try.prog 3 Pl))
      have HF4 := Lib.hid ((Fr.refl (fun b _ => b = w3.heap.size) w3).alloc (.map #[] 0))
      have HFB := Lib.hid (fun (W : World) (h : Fr (fun b _ => b = w3.heap.size) w3 W) => show Fr No (w.alloc (.cells #[.slice x.sa x.sp.length x.sc, .slice x.da x.du.length x.dc] 63)) W from HF3.out.step h (fun b o hb e => by have := HF3.out.size; omega))
      have HAT := Lib.hid (fun (W : World) (h : Fr (fun b _ => b = w3.heap.size) w3 W) => show At W la (L.map iv) from HA3.out.fr h (fun g off _ hg i _ e => by omega))
      clear HA2 HA3 HF1 HF2
      generalize w3.alloc (.map #[] 0) = w4 at *
      go_loopw [8] (fun i wr => ∃ k : Nat, k ≤ x.sp.length ∧ i = .int .i64 k ∧ Hid (∃ D, wr.ownsMap Try.prog 3 Pl w3.heap.size k D ∧ MF x.g.order k D) ∧ Hid (Fr (fun b _ => b = w3.heap.size) w3 wr)) (fun i _ => x.sp.length - (intOf i).toNat)
      case atStart => exact ⟨0, Nat.zero_le _, rfl, Lib.hid ⟨_, HM0.out, mf_start _⟩, HF4⟩
      case round =>
        obtain ⟨k, hk, rfl, HD, HF⟩ := hrel
        clear HM0 HF4
        by_cases hlt : k < x.sp.length
        · obtain ⟨D, hown, hmf⟩ := HD.out
          obtain ⟨s, h1, h2, h3, h4⟩ := HOA.out k hlt
          obtain ⟨ga, oa, rfl, hra⟩ := HAT.out _ HF.out (by have := HLN.out; simp; omega)
          have c2 : wr.cell? ⟨ga, oa + k, none⟩ = some (.int .i64 s) := hra.get k (iv s) (by simp [h2])
          obtain ⟨w5, hrun, hown5, hturn5⟩ := hown.store (int_keyed Try.underlying3) Try.underlying70 (by unfold maxLen; omega) (keyI (s : Int) (wf_nat (by omega))) (val := .int .i64 ((k : Int) + 1)) (d := .lit (.int .i64 ((k : Int) + 1))) (ps := []) (plainElem_int Try.underlying3 (wf_nat (n := k + 1) (by omega)))
          have HD5 := Lib.hid (show ∃ D, w5.ownsMap Try.prog 3 Pl w3.heap.size (k + 1) D ∧ MF x.g.order (k + 1) D from ⟨_, hown5, hmf.next h1 h4 (hown.tidy (int_keyed Try.underlying3)) hown.isMap⟩)
          have HF5 := Lib.hid (HF.out.trans (turned_fr hturn5))
          have hki : (k : Int) < x.sp.length := by omega
          clear hown hmf h1 h2 h4 hra hown5 hturn5
          go_wp2
          go_roundw
          case rel => exact ⟨k + 1, by omega, by go_num, HD5, HF5⟩
          case measure => simp [intOf]; omega
        · obtain rfl : k = x.sp.length := by omega
          obtain ⟨D, hown, hmf⟩ := HD.out
          have hlen := hown.len Try.underlying70 3
          rw [hmf.size] at hlen
          have HOW := Lib.hid hown; have HMF := Lib.hid hmf
          have c0 := (HB.out _ (HFB.out _ HF.out)).1
          clear hown hmf HD hlt hk
          have HW5 := Lib.hid (Fr.refl No wr)
          go_wp2_with fail
          clear c0 hlen
          go_loopw [9] (fun i wy => ∃ k : Nat, k ≤ x.du.length ∧ i = .int .i64 k ∧ Hid (Fr No wr wy)) (fun i _ => x.du.length - (intOf i).toNat)
          case atStart => exact ⟨0, Nat.zero_le _, rfl, HW5⟩
          case round =>
            obtain ⟨k, hk, rfl, HFy⟩ := hrel
            clear HW5
            have c1 := (HB.out _ ((HFB.out _ HF.out).trans HFy.out)).2
            by_cases hlt : k < x.du.length
            · obtain ⟨gd, od, hda, hdr⟩ := (HXB.out _ ((HFB.out _ HF.out).trans HFy.out)).du.flat dc_len (by decide) (by omega)
              obtain ⟨d0, d1, d2, d3, d4⟩ := dc_cells hdr hlt
              have hmem : x.du[k] ∈ x.du := List.getElem_mem _
              obtain ⟨p, q, hpq, hqn, e1, e2⟩ := HFW.out _ hmem
              obtain ⟨⟨f1, f2⟩, t1, t2⟩ := hends.out _ hmem
              obtain ⟨wf1, _, wf2, _, _⟩ := hdc.out _ hmem
              rw [hda] at c1
              clear hda hdr hmem
              generalize x.du[k] = d at *
              obtain ⟨frm, dout, dto, dinn, dcap⟩ := d
              dsimp only at *
              obtain ⟨fn, rfl⟩ : ∃ fn : Nat, frm = fn := ⟨frm.toNat, by omega⟩
              obtain ⟨tn, rfl⟩ : ∃ tn : Nat, dto = tn := ⟨dto.toNat, by omega⟩
              rw [Int.toNat_natCast] at e1 e2
              rw [x.st_len] at hqn
              have hz : ∀ W : World, (zeroValue 3).run Try.prog W = .ok (.int .i64 0) W := fun W => by simp [zeroValue, typeInfo]; kernel_rfl
              have own1 := omap_fr HOW.out (HFy.out.alloc (.cells #[.int .i64 fn, .int .i64 dout, .int .i64 tn, .int .i64 dinn, .int .i64 dcap] 72)) (fun _ y => y)
              obtain ⟨a1, hr1, ha1, _⟩ := own1.lookup_int (int_keyed Try.underlying3) Try.underlying70 Try.underlying3 (hz _) (keyI (fn : Int) wf1)
              obtain ⟨a2, hr2, ha2, _⟩ := own1.lookup_int (int_keyed Try.underlying3) Try.underlying70 Try.underlying3 (hz _) (keyI (tn : Int) wf2)
              rw [HMF.out.pos p fn (by omega) e1] at ha1
              rw [HMF.out.pos q tn (by omega) e2] at ha2
              injection ha1 with ha1; injection ha1 with _ ha1; subst ha1
              injection ha2 with ha2; injection ha2 with _ ha2; subst ha2
              have z1 : ((p : Int) + 1 == 0) = false := by simp only [beq_eq_false_iff_ne]; omega
              have z2 : ((q : Int) + 1 == 0) = false := by simp only [beq_eq_false_iff_ne]; omega
              have z3 : decide ((q : Int) + 1 ≤ (p : Int) + 1) = false := decide_eq_false (by omega)
              have z4 : ¬ ((q : Int) + 1 ≤ (p : Int) + 1) := by omega
              have hki : (k : Int) < x.du.length := by omega
              have HFz := Lib.hid (HFy.out.alloc (.cells #[.int .i64 fn, .int .i64 dout, .int .i64 tn, .int .i64 dinn, .int .i64 dcap] 72))
              clear own1 hz e1 e2 f1 f2 t1 t2 wf1 wf2
              go_wp2
              go_roundw
              case rel => exact ⟨k + 1, by omega, by go_num, HFz⟩
              case measure => simp [intOf]; omega
            · obtain rfl : k = x.du.length := by omega
              go_wp2_with (go_at_call 42; refine (awake20 _).mono ?_; rintro e w9 ⟨rfl, hf9⟩)
              go_ret
              exact ⟨rfl, (K0.out.trans ((HFB.out _ HF.out).trans HFy.out)).trans hf9⟩
    · have hcb : (x.g.check.2 != 0) = true := by simpa using hck
      have hol : x.g.orderL = [] := if_neg hck
      rw [hol] at HOR
      clear hck hsm hx hol
      generalize x.g.check = ck at *
      go_enter Try.func12, Try.ntmps12
      go_wp2_with (first
        | (go_at_call 41; refine HLO.out.mono ?_; rintro e w1 ⟨rfl, hf1⟩
           have HF1 := Lib.hid hf1
           obtain ⟨c0, c1⟩ := HB.out _ hf1
           clear hf1)
        | (go_at_call 47; refine (HOR.out _ HF1.out).mono ?_; rintro e w2 ⟨la, lc, rfl, -, hf2⟩
           have HF2 := Lib.hid (HF1.out.trans hf2)
           clear c0 c1
           obtain ⟨c0, c1⟩ := HB.out _ HF2.out
           clear hf2)
        | (go_at_call 44; refine (HCK.out _ HF2.out).mono ?_; rintro e w3 ⟨rfl, hf3⟩
           have HF3 := Lib.hid (HF2.out.trans hf3)
           clear hf3 c0 c1)
        | (go_at_call 42; refine (awake20 _).mono ?_; rintro e w4 ⟨rfl, hf4⟩))
      go_ret
      exact ⟨rfl, (K0.out.trans HF3.out).trans hf4⟩
  · rw [longB_yes hsm] at HLO
    clear hx hsm
    go_enter Try.func12, Try.ntmps12
    go_wp2_with (first
      | (go_at_call 41; refine HLO.out.mono ?_; rintro e w1 ⟨rfl, hf1⟩)
      | (go_at_call 42; refine (awake20 _).mono ?_; rintro e w3 ⟨rfl, hf3⟩))
    go_ret
    exact ⟨rfl, (K0.out.trans hf1).trans hf3⟩
theorem walk_graphForward (w : World) {v : Value} (x : Gv) (h : IsGr w v x) : Calls Try.prog 12 #[v] w (RndPost w true) := by
  obtain ⟨rfl, hx⟩ := h
  exact core_graphForward w x hx
end Go.Proofs.Ytljldkknopmfhaa
