/- A machine to which calls that are not due are made between all others: it is a machine as the one within. -/
import Derived.Test.YtjnebkoohimgjaaGreatDoorMach
import Derived.Test.YtjnebkoohimgjaaGreatDoorBytes
import Derived.Deep.RegionHeld3
import Derived.Deep.Cut
import Derived.Deep.DeepCutAuto
import Derived.Laws.EntriesVeiled
namespace Go.Proofs.YtjnebkoohimgjaaGreatDoor
open Go.RowKit

section
variable {σ : Type} {M : Mod σ} {m : Meth} {R : World → (Nat → Prop) → σ → Prop}
/-- It lies at x: the machine within, the port, the bytes, that nothing was amiss. -/
structure PokeAt (m : Meth) (x : Nat) (port : Int) (ba : Option Addr) (b : List UInt8) (bc : Nat) (w : World) (F0 : Nat → Prop) : Prop where
  c0 : w.cell? ⟨x, 0, none⟩ = some (.iface m.U m.x)
  c1 : w.cell? ⟨x, 1, none⟩ = some (.int .i64 port)
  c2 : w.cell? ⟨x, 2, none⟩ = some (.slice ba b.length bc)
  c3 : w.cell? ⟨x, 3, none⟩ = some (.bool false)
  z3 : w.frozen? ⟨x, 3, none⟩ = false
  bytes : At w ba (b.map bv)
  low : 0 < b.length → ∀ g off, ba = some ⟨g, off, none⟩ → ¬ F0 g ∧ g < x
  out : ¬ F0 x
theorem PokeAt.lt {x : Nat} {port : Int} {ba : Option Addr} {b : List UInt8} {bc : Nat} {w : World} {F0 : Nat → Prop} (h : PokeAt m x port ba b bc w F0) : x < w.heap.size := World.block_lt_of_cell? w _ h.c0
theorem PokeAt.next {x : Nat} {port : Int} {ba : Option Addr} {b : List UInt8} {bc : Nat} {w w' : World} {F0 F1 : Nat → Prop} {S : Nat → Nat → Prop} (h : PokeAt m x port ba b bc w F0) (k : Fr S w w') (hx : ∀ o, ¬ S x o) (hb : ∀ g o, g < x → ¬ F0 g → ¬ S g o)
    (hF : ∀ y, F1 y → F0 y ∨ w.heap.size ≤ y) : PokeAt m x port ba b bc w' F1 :=
  ⟨(k.cell x 0 h.lt (hx 0)).trans h.c0, (k.cell x 1 h.lt (hx 1)).trans h.c1, (k.cell x 2 h.lt (hx 2)).trans h.c2, (k.cell x 3 h.lt (hx 3)).trans h.c3, (k.frozen x 3 h.lt (hx 3)).trans h.z3,
    h.bytes.fr k (fun g off e _ i hi => hb g _ (h.low (by simp at hi; omega) g off e).2 (h.low (by simp at hi; omega) g off e).1),
    fun h0 g off e => ⟨fun hg => by rcases hF g hg with h1 | h1; exact (h.low h0 g off e).1 h1; (have := (h.low h0 g off e).2; have := h.lt; omega), (h.low h0 g off e).2⟩,
    fun hx => by rcases hF x hx with h1 | h1; exact h.out h1; (have := h.lt; omega)⟩
/-- The machine with what pokes it. -/
def RP (m : Meth) (R : World → (Nat → Prop) → σ → Prop) (x : Nat) (port : Int) (ba : Option Addr) (b : List UInt8) (bc : Nat) (w : World) (F : Nat → Prop) (s : σ) : Prop :=
  ∃ F0, (∀ y, F y ↔ F0 y ∨ y = x) ∧ R w F0 s ∧ PokeAt m x port ba b bc w F0
/-- How it stands while it is poked. -/
structure PK (m : Meth) (R : World → (Nat → Prop) → σ → Prop) (x : Nat) (port : Int) (ba : Option Addr) (b : List UInt8) (bc : Nat) (F0 : Nat → Prop) (s : σ) (w W : World) : Prop where
  r : R W F0 s
  at_ : PokeAt m x port ba b bc W F0
  fr : Fr (fun y _ => F0 y ∨ y = x) w W
variable {x : Nat} {port : Int} {ba : Option Addr} {b : List UInt8} {bc : Nat} {F0 : Nat → Prop} {s : σ} {w : World}
theorem PK.call {W W' : World} (h : PK m R x port ba b bc F0 s w W) (hr : R W' F0 s) (k : Fr (InF F0) W W') : PK m R x port ba b bc F0 s w W' :=
  ⟨hr, h.at_.next k (fun _ => h.at_.out) (fun _ _ _ hg => hg) (fun _ hy => .inl hy), h.fr.step k (fun _ _ _ e => .inl e)⟩
theorem PK.no (hM : Mach M m R) {W W' : World} (h : PK m R x port ba b bc F0 s w W) (k : Fr No W W') : PK m R x port ba b bc F0 s w W' :=
  ⟨hM.fr h.r k (fun _ _ _ e => e) (fun _ _ _ e => e), h.at_.next k (fun _ e => e) (fun _ _ _ _ e => e) (fun _ hy => .inl hy), h.fr.step k (fun _ _ _ e => e.elim)⟩
theorem PK.bad (hM : Mach M m R) (hx : m.B ≤ x) {W : World} (h : PK m R x port ba b bc F0 s w W) : PK m R x port ba b bc F0 s w (W.setCell ⟨x, 3, none⟩ (.bool false)) := by
  have k : Fr (fun y o => y = x ∧ o = 3) W (W.setCell ⟨x, 3, none⟩ (.bool false)) := (Fr.refl _ _).setCell (fun _ => ⟨rfl, rfl⟩) _
  have a := h.at_
  refine ⟨hM.fr h.r k (fun y o hy e => a.out (e.1 ▸ hy)) (fun y o hy e => by have := e.1; omega), ?_, h.fr.step k (fun y o _ e => .inr e.1)⟩
  refine ⟨(k.cell x 0 a.lt (fun e => by have := e.2; omega)).trans a.c0, (k.cell x 1 a.lt (fun e => by have := e.2; omega)).trans a.c1, (k.cell x 2 a.lt (fun e => by have := e.2; omega)).trans a.c2, World.cell?_setCell_same _ _ _ a.c3, by rw [World.frozen?_setCell]; exact a.z3,
    a.bytes.fr k (fun g off e _ i hi e2 => by have := (a.low (by simp at hi; omega) g off e).2; have := e2.1; omega), a.low, a.out⟩
end
set_option maxRecDepth 100000 in
theorem refused_any (x : Nat) (want : Int) (a : Option Addr) (c : Nat) (w : World) (c3 : w.cell? ⟨x, 3, none⟩ = some (.bool false)) (z3 : w.frozen? ⟨x, 3, none⟩ = false) :
    Calls Tryz.prog 17 #[.pointer (some ⟨x, 0, none⟩), .int .i64 want, .slice a 0 c, .int .i64 want] w (fun e w' => e = .returned (.tuple #[]) ∧ w' = w.setCell ⟨x, 3, none⟩ (.bool false)) := by
  go_enter Tryz.func17, Tryz.ntmps17
  go_wp2
  refine bodyPost_end (results_none rfl _ _ _) rfl ?_
  exact ⟨rfl, rfl⟩
section
variable {σ : Type} {M : Mod σ} {m : Meth} {R : World → (Nat → Prop) → σ → Prop}

theorem pk_heap (w : World) (o : Obj) (g : Nat) (hg : g = w.heap.size) : (w.alloc o).heap[g]? = some o := by subst hg; exact heap_alloc_new _ _
theorem pk_own {w : World} {g : Nat} {e : TypeId} (size : Nat) (h : w.heap[g]? = some (.cells #[] e (0, 0))) : OwnSl w e size (.slice (some ⟨g, 0, none⟩) 0 0) 0 [] :=
  ⟨by simp, .inr ⟨g, 0, 0, _, rfl, h, Nat.le_refl _, by unfold maxLen; omega, by simp, fun i hi => absurd hi (by simp)⟩⟩
def PokePost (m : Meth) (R : World → (Nat → Prop) → σ → Prop) (x : Nat) (port : Int) (ba : Option Addr) (b : List UInt8) (bc : Nat) (F0 : Nat → Prop) (s : σ) (w : World) (e : Ending) (w' : World) : Prop := e = .returned (.tuple #[]) ∧ PK m R x port ba b bc F0 s w w'
set_option maxHeartbeats 16000000 in
set_option maxRecDepth 100000 in
theorem poke_any (hM : Mach M m R) (hRf : Refuses M m R) (x : Nat) (hx : m.B ≤ x) (port : Int) (ba : Option Addr) (b : List UInt8) (bc : Nat) (hbl : b.length ≤ 100000) (F0 : Nat → Prop) (s : σ) (w : World) (h : R w F0 s) (ha : PokeAt m x port ba b bc w F0) :
    Calls Tryz.prog 9 #[.pointer (some ⟨x, 0, none⟩)] w (PokePost m R x port ba b bc F0 s w) := by
  obtain ⟨j0, hj, jz0, jz1, jz2⟩ := info_parts Tryz.info5
  have hmN := hM.ok.mN; have hmH := hM.ok.mH; have hmF := hM.ok.mF; have hmE := hM.ok.mE; have hmM := hM.ok.mM
  have hcN := hM.ok.cN; have hcH := hM.ok.cH; have hcF := hM.ok.cF; have hcE := hM.ok.cE; have hcM := hM.ok.cM
  have HNEED := Lib.hid (fun (W : World) (h : R W F0 s) => hM.need h)
  have HHELD := Lib.hid (fun (W : World) (h : R W F0 s) => hM.held h)
  have HFEED := Lib.hid (fun (W : World) (h : R W F0 s) => hRf.feed h)
  have HFIN := Lib.hid (fun (W : World) (h : R W F0 s) => hRf.fin h)
  have HMORE := Lib.hid (fun (W : World) (h : R W F0 s) => hRf.more h)
  have HM := Lib.hid hM
  have P0 : Hid (PK m R x port ba b bc F0 s w w) := Lib.hid ⟨h, ha, Fr.refl _ _⟩
  clear hRf h ha hM
  generalize M.need s = n at *
  generalize M.held s = hh at *
  obtain ⟨D, HD⟩ : ∃ D, Hid (D = notDue n) := ⟨_, Lib.hid rfl⟩
  rw [← HD.out] at HFEED HFIN HMORE
  obtain ⟨c00, c10, c20, c30, z30, _, _, _⟩ := P0.out.at_
  go_enter Tryz.func9, Tryz.ntmps9
  go_wp2_with fail
  refine (HNEED.out _ P0.out.r).mono ?_
  rintro e1 w1 ⟨rfl, hR1, hf1⟩
  have P1 := Lib.hid (P0.out.call hR1 hf1)
  clear c00 c10 c20 c30 z30 hR1 hf1
  obtain ⟨c01, c11, c21, c31, z31, _, _, _⟩ := P1.out.at_
  go_wp2_with fail
  refine (HHELD.out _ P1.out.r).mono ?_
  rintro e2 w2 ⟨rfl, hR2, hf2⟩
  have P2 := Lib.hid (P1.out.call hR2 hf2)
  clear c01 c11 c21 c31 z31 hR2 hf2
  obtain ⟨c02, c12, c22, c32, z32, _, _, _⟩ := P2.out.at_
  go_upto_if 22 with fail
  go_cut [4] from 11 (fun s4 wx => s4 = .int .i64 D ∧ PK m R x port ba b bc F0 s w wx)
  case first =>
    by_cases hn : n = -1
    · have hk : (n == -1) = true := by simp [hn]
      have HDD := Lib.hid (show D = 4 from by rw [HD.out]; unfold notDue; rw [if_pos hn])
      clear hn
      go_wp2
      go_meet
      case rel => exact ⟨by rw [HDD.out], P2.out⟩
    · have hk : (n == -1) = false := by simpa using hn
      have HDD := Lib.hid (show D = 1 from by rw [HD.out]; unfold notDue; rw [if_neg hn])
      clear hn
      go_wp2
      go_meet
      case rel => exact ⟨by rw [HDD.out], P2.out⟩
  case rest =>
    obtain ⟨rfl, hcut⟩ := hcut
    obtain P3 := Lib.hid hcut
    clear hcut
    generalize wc = w3 at *
    obtain ⟨c03, c13, c23, c33, z33, _, _, _⟩ := P3.out.at_
    obtain ⟨B1, HB1⟩ : ∃ B : Bool, Hid (B = decide (port ≠ n ∨ b.length = 0 ∨ 32 < b.length)) := ⟨_, Lib.hid rfl⟩
    go_upto_region 5 with fail
    go_cut [44] from 11 (fun s44 wx => s44 = .bool B1 ∧ PK m R x port ba b bc F0 s w wx)
    case first =>
      by_cases hp : port = n
      · have k1 : (port != n) = false := by simpa using hp
        by_cases hb0 : b.length = 0
        · have k2 : ((b.length : Int) == 0) = true := by simp [hb0]
          have HBB := Lib.hid (show B1 = true from by rw [HB1.out]; exact decide_eq_true (.inr (.inl hb0)))
          clear hp hb0
          go_wp2
          go_meet
          case rel => exact ⟨by rw [HBB.out], P3.out⟩
        · have k2 : ((b.length : Int) == 0) = false := by simpa using hb0
          by_cases hb32 : 32 < b.length
          · have k3 : (32 : Int) < b.length := by omega
            have HBB := Lib.hid (show B1 = true from by rw [HB1.out]; exact decide_eq_true (.inr (.inr hb32)))
            clear hp hb0 hb32
            go_wp2
            go_meet
            case rel => exact ⟨by rw [HBB.out], P3.out⟩
          · have k3 : ¬ (32 : Int) < b.length := by omega
            have HBB := Lib.hid (show B1 = false from by rw [HB1.out]; exact decide_eq_false (by rintro (h | h | h); exact h hp; exact hb0 h; exact hb32 h))
            clear hp hb0 hb32
            go_wp2
            go_meet
            case rel => exact ⟨by rw [HBB.out], P3.out⟩
      · have k1 : (port != n) = true := by simpa using hp
        have HBB := Lib.hid (show B1 = true from by rw [HB1.out]; exact decide_eq_true (.inl hp))
        clear hp
        go_wp2
        go_meet
        case rel => exact ⟨by rw [HBB.out], P3.out⟩
    case rest =>
      obtain ⟨rfl, hcut⟩ := hcut
      obtain P4 := Lib.hid hcut
      clear hcut
      generalize wc = w4 at *
      obtain ⟨c04, c14, c24, c34, z34, _, _, _⟩ := P4.out.at_
      go_upto_if 44 with fail
      go_cut [] from 11 (fun wx => PK m R x port ba b bc F0 s w wx)
      case first =>
        cases B1 with
        | false =>
          go_wp2
          go_meet
          case rel => exact P4.out
        | true =>
          have HB2 := Lib.hid (show port ≠ n ∨ b.length = 0 ∨ 32 < b.length from of_decide_eq_true HB1.out.symm)
          go_wp2_with fail
          have KP4 := Lib.hid (fun (W : World) (f : PK m R x port ba b bc F0 s w W) => (show W.cell? ⟨x, 0, none⟩ = some (.iface m.U m.x) ∧ W.cell? ⟨x, 1, none⟩ = some (.int .i64 port) ∧ W.cell? ⟨x, 2, none⟩ = some (.slice ba b.length bc) from ⟨f.at_.c0, f.at_.c1, f.at_.c2⟩))
          have PD4 := Lib.hid (P4.out.no HM.out (Fr.refl _ _).drew)
          have PA4 := Lib.hid (PD4.out.no HM.out ((Fr.refl No _).alloc (.cells #[] 5)))
          have AB4 := Lib.hid (PA4.out.at_.bytes)
          clear c04 c14 c24 c34 z34
          go_region_held3 (fun W => W.cell? ⟨x, 0, none⟩ = some (.iface m.U m.x) ∧ W.cell? ⟨x, 1, none⟩ = some (.int .i64 port) ∧ W.cell? ⟨x, 2, none⟩ = some (.slice ba b.length bc))
            (first | exact KP4.out _ PD4.out | exact KP4.out _ PA4.out | exact KP4.out _ PB4.out | exact KP4.out _ P5.out)
            (first
              | (refine step_append_sl rfl (.tmp 54) (.tmp 58) 22 22 rfl 5 j0 (.int .u8 0) 1 1 Tryz.underlying22 hj jz0 jz1 jz2 rfl (by decide) _ 0 [] rfl (pk_own 1 (pk_heap _ _ _ (by simp))) _ b.length (b.map bv) rfl (src_slice Tryz.underlying22 (by simp) AB4.out (by simp [Value.oneCell'])) (by omega) (by omega) ?_
                 intro vA wA hownA hfrA hblkA
                 rw [Nat.zero_add, List.nil_append] at hownA
                 obtain ⟨aA, cA, hvA, hatA, _⟩ := hownA.at
                 subst hvA
                 have HATA := Lib.hid hatA
                 have PB4 := Lib.hid (PD4.out.no HM.out (Fr.step ((Fr.refl No _).alloc (.cells #[] 5)) hfrA (fun y o hy h => by have h' : some w4.drew.heap.size = some y := h; injection h' with h'; omega)))
                 clear hownA hfrA hblkA hatA)
              | (refine (HFEED.out _ PB4.out.r port aA b cA HATA.out hbl HB2.out).mono ?_
                 rintro e5 w5 ⟨a5, k5, rfl, hR5, hf5⟩
                 have P5 := Lib.hid (PB4.out.call hR5 hf5)
                 clear hR5 hf5))
          obtain ⟨c05, c15, c25, c35, z35, _, _, _⟩ := P5.out.at_
          go_wp2_with fail
          refine (refused_any x _ a5 k5 _ c35 z35).mono ?_
          rintro e6 w6 ⟨rfl, hw6⟩
          have P6 := Lib.hid (show PK m R x port ba b bc F0 s w w6 from by rw [hw6]; exact P5.out.bad HM.out hx)
          clear c05 c15 c25 c35 z35 hw6
          obtain ⟨c06, c16, c26, c36, z36, _, _, _⟩ := P6.out.at_
          go_wp2
          go_meet
          case rel => exact P6.out
      case rest =>
        obtain P7 := Lib.hid hcut
        clear hcut
        generalize wc = w7 at *
        obtain ⟨c07, c17, c27, c37, z37, _, _, _⟩ := P7.out.at_
        go_upto_if 75 with fail
        go_cut [] from 11 (fun wx => PK m R x port ba b bc F0 s w wx)
        case first =>
          by_cases hp : port = n
          · have k1 : (port != n) = false := by simpa using hp
            clear hp
            go_wp2
            go_meet
            case rel => exact P7.out
          · have k1 : (port != n) = true := by simpa using hp
            have HP := Lib.hid hp; clear hp
            go_wp2_with fail
            have KP7 := Lib.hid (fun (W : World) (f : PK m R x port ba b bc F0 s w W) => (show W.cell? ⟨x, 0, none⟩ = some (.iface m.U m.x) ∧ W.cell? ⟨x, 1, none⟩ = some (.int .i64 port) ∧ W.cell? ⟨x, 2, none⟩ = some (.slice ba b.length bc) from ⟨f.at_.c0, f.at_.c1, f.at_.c2⟩))
            have PD7 := Lib.hid (P7.out.no HM.out (Fr.refl _ _).drew)
            clear c07 c17 c27 c37 z37
            go_region_held3 (fun W => W.cell? ⟨x, 0, none⟩ = some (.iface m.U m.x) ∧ W.cell? ⟨x, 1, none⟩ = some (.int .i64 port) ∧ W.cell? ⟨x, 2, none⟩ = some (.slice ba b.length bc))
              (first | exact KP7.out _ PD7.out | exact KP7.out _ P8.out)
              (first
                | (refine (HFIN.out _ PD7.out.r port HP.out).mono ?_
                   rintro e8 w8 ⟨a8, k8, rfl, hR8, hf8⟩
                   have P8 := Lib.hid (PD7.out.call hR8 hf8)
                   clear hR8 hf8))
            obtain ⟨c08, c18, c28, c38, z38, _, _, _⟩ := P8.out.at_
            go_wp2_with fail
            refine (refused_any x _ a8 k8 _ c38 z38).mono ?_
            rintro e9 w9 ⟨rfl, hw9⟩
            have P9 := Lib.hid (show PK m R x port ba b bc F0 s w w9 from by rw [hw9]; exact P8.out.bad HM.out hx)
            clear c08 c18 c28 c38 z38 hw9
            obtain ⟨c09, c19, c29, c39, z39, _, _, _⟩ := P9.out.at_
            go_wp2
            go_meet
            case rel => exact P9.out
        case rest =>
          obtain P10 := Lib.hid hcut
          clear hcut
          generalize wc = w10 at *
          obtain ⟨c010, c110, c210, c310, z310, _, _, _⟩ := P10.out.at_
          go_upto_if 96 with fail
          go_cut [] from 11 (fun wx => PK m R x port ba b bc F0 s w wx)
          case first =>
            by_cases hp : n = -2
            · have k1 : (n != -2) = false := by simp [hp]
              clear hp
              go_wp2
              go_meet
              case rel => exact P10.out
            · have k1 : (n != -2) = true := by simpa using hp
              have HP := Lib.hid hp; clear hp
              go_wp2_with fail
              refine (HMORE.out _ P10.out.r HP.out).mono ?_
              rintro e11 w11 ⟨a11, k11, rfl, hR11, hf11⟩
              have P11 := Lib.hid (P10.out.call hR11 hf11)
              clear c010 c110 c210 c310 z310 hR11 hf11
              obtain ⟨c011, c111, c211, c311, z311, _, _, _⟩ := P11.out.at_
              go_wp2_with fail
              refine (refused_any x _ a11 k11 _ c311 z311).mono ?_
              rintro e12 w12 ⟨rfl, hw12⟩
              have P12 := Lib.hid (show PK m R x port ba b bc F0 s w w12 from by rw [hw12]; exact P11.out.bad HM.out hx)
              clear c011 c111 c211 c311 z311 hw12
              obtain ⟨c012, c112, c212, c312, z312, _, _, _⟩ := P12.out.at_
              go_wp2
              go_meet
              case rel => exact P12.out
          case rest =>
            obtain P13 := Lib.hid hcut
            clear hcut
            generalize wc = w13 at *
            obtain ⟨c013, c113, c213, c313, z313, _, _, _⟩ := P13.out.at_
            go_wp2_with fail
            refine (HNEED.out _ P13.out.r).mono ?_
            rintro e14 w14 ⟨rfl, hR14, hf14⟩
            have P14 := Lib.hid (P13.out.call hR14 hf14)
            clear c013 c113 c213 c313 z313 hR14 hf14
            obtain ⟨c014, c114, c214, c314, z314, _, _, _⟩ := P14.out.at_
            go_wp2_with fail
            refine (HHELD.out _ P14.out.r).mono ?_
            rintro e15 w15 ⟨rfl, hR15, hf15⟩
            have P15 := Lib.hid (P14.out.call hR15 hf15)
            clear c014 c114 c214 c314 z314 hR15 hf15
            obtain ⟨c015, c115, c215, c315, z315, _, _, _⟩ := P15.out.at_
            go_wp2
            refine bodyPost_end (results_none rfl _ _ _) rfl ?_
            exact ⟨rfl, P15.out.bad HM.out hx⟩
end
end Go.Proofs.YtjnebkoohimgjaaGreatDoor

/- A machine that is poked is a machine. -/
namespace Go.Proofs.YtjnebkoohimgjaaGreatDoor
open Go.RowKit

def pokeMeth (x : Nat) : Meth :=
  ⟨35, .pointer (some ⟨x, 0, none⟩), 103, .pointer (some ⟨x, 0, none⟩), 101, .pointer (some ⟨x, 0, none⟩), 100, .pointer (some ⟨x, 0, none⟩), 99, .pointer (some ⟨x, 0, none⟩), 102, .pointer (some ⟨x, 0, none⟩), x⟩
set_option maxRecDepth 100000 in
theorem poke_meth (x : Nat) : (pokeMeth x).Ok where
  mN _ := by kernel_rfl
  mH _ := by kernel_rfl
  mF _ := by kernel_rfl
  mE _ := by kernel_rfl
  mM _ := by kernel_rfl
  cN _ _ := by rfl
  cH _ _ := by rfl
  cF _ _ := by rfl
  cE _ _ := by rfl
  cM _ _ := by rfl
section
variable {σ : Type} {M : Mod σ} {m : Meth} {R : World → (Nat → Prop) → σ → Prop}
theorem ans_poke {x : Nat} {port : Int} {ba : Option Addr} {b : List UInt8} {bc : Nat} {F F0 : Nat → Prop} {s : σ} {w w1 : World} (hF : ∀ y, F y ↔ F0 y ∨ y = x) (hP : PK m R x port ba b bc F0 s w w1) {r : σ × List (List UInt8) × Int} {e : Ending} {w2 : World} (h : AnsPost R F0 w1 r e w2) : AnsPost (RP m R x port ba b bc) F w r e w2 := by
  obtain ⟨a, ps, c, F2, he, hbo, hok, ho, hr, hf, hF2⟩ := h
  have hs := hP.fr.size
  have hx := hP.at_.lt
  refine ⟨a, ps, c, fun y => F2 y ∨ y = x, he, hbo, hok, ⟨ho.cells, fun g off e => by have := ho.new g off e; omega, fun p hp => ⟨(ho.bytes p hp).1, fun g off e => by have := (ho.bytes p hp).2 g off e; omega⟩⟩,
    ⟨F2, fun _ => Iff.rfl, hr, hP.at_.next hf (fun _ e => hP.at_.out e) (fun g o _ hg e => hg e) hF2⟩, (hP.fr.step hf (fun _ _ _ e => .inl e)).mono (fun y _ _ e => (hF y).2 e), fun y hy => ?_⟩
  rcases hy with hy | hy
  · rcases hF2 y hy with h | h
    · exact .inl ((hF y).2 (.inl h))
    · exact .inr (by omega)
  · exact .inl ((hF y).2 (.inr hy))
set_option maxRecDepth 100000 in
theorem poke_need (hM : Mach M m R) {x : Nat} {port : Int} {ba : Option Addr} {b : List UInt8} {bc : Nat} {F0 : Nat → Prop} {s : σ} {w : World} (h : R w F0 s) (ha : PokeAt m x port ba b bc w F0) :
    Calls Tryz.prog 103 #[.pointer (some ⟨x, 0, none⟩)] w (fun e w' => e = .returned (.int .i64 (M.need s)) ∧ PK m R x port ba b bc F0 s w w') := by
  have hmN := hM.ok.mN
  have hcN := hM.ok.cN
  have hneed := hM.need h
  have P0 : Hid (PK m R x port ba b bc F0 s w w) := Lib.hid ⟨h, ha, Fr.refl _ _⟩
  clear h ha hM
  generalize M.need s = n at *
  have HN := Lib.hid hneed; clear hneed
  obtain ⟨c0, c1, c2, c3, z3, _, _, _⟩ := P0.out.at_
  go_enter Tryz.func103, Tryz.ntmps103
  go_wp2_with fail
  refine HN.out.mono ?_
  rintro e1 w1 ⟨rfl, hR1, hf1⟩
  have P1 := Lib.hid (P0.out.call hR1 hf1)
  clear hR1 hf1
  go_wp2
  go_ret
  exact ⟨rfl, P1.out⟩
set_option maxRecDepth 100000 in
theorem poke_held (hM : Mach M m R) {x : Nat} {port : Int} {ba : Option Addr} {b : List UInt8} {bc : Nat} {F0 : Nat → Prop} {s : σ} {w : World} (h : R w F0 s) (ha : PokeAt m x port ba b bc w F0) :
    Calls Tryz.prog 101 #[.pointer (some ⟨x, 0, none⟩)] w (fun e w' => e = .returned (.int .i64 (M.held s)) ∧ PK m R x port ba b bc F0 s w w') := by
  have hmH := hM.ok.mH
  have hcH := hM.ok.cH
  have hheld := hM.held h
  have P0 : Hid (PK m R x port ba b bc F0 s w w) := Lib.hid ⟨h, ha, Fr.refl _ _⟩
  clear h ha hM
  generalize M.held s = n at *
  have HN := Lib.hid hheld; clear hheld
  obtain ⟨c0, c1, c2, c3, z3, _, _, _⟩ := P0.out.at_
  go_enter Tryz.func101, Tryz.ntmps101
  go_wp2_with fail
  refine HN.out.mono ?_
  rintro e1 w1 ⟨rfl, hR1, hf1⟩
  have P1 := Lib.hid (P0.out.call hR1 hf1)
  clear hR1 hf1
  go_wp2
  go_ret
  exact ⟨rfl, P1.out⟩
set_option maxRecDepth 100000 in
theorem poke_feed (hM : Mach M m R) (hRf : Refuses M m R) {x : Nat} (hx : m.B ≤ x) {port : Int} {ba : Option Addr} {b : List UInt8} {bc : Nat} (hbl : b.length ≤ 100000) {F F0 : Nat → Prop} (hF : ∀ y, F y ↔ F0 y ∨ y = x) {s : σ} {w : World} (h : R w F0 s) (ha : PokeAt m x port ba b bc w F0)
    (hn : M.need s = 0) (a : Option Addr) (c : List UInt8) (cap : Nat) (hat : At w a (c.map bv)) (hFa : ∀ g off, a = some ⟨g, off, none⟩ → ¬ F g) (h1 : 1 ≤ c.length) (h32 : c.length ≤ 32) :
    Calls Tryz.prog 100 #[.pointer (some ⟨x, 0, none⟩), .int .i64 0, .slice a c.length cap] w (AnsPost (RP m R x port ba b bc) F w (M.feed s c)) := by
  have hmF := hM.ok.mF
  have hcF := hM.ok.cF
  have hpk := poke_any hM hRf x hx port ba b bc hbl F0 s w h ha
  have HPK := Lib.hid hpk
  have HFD := Lib.hid (fun (W : World) (P : PK m R x port ba b bc F0 s w W) => hM.feed P.r hn a c cap (hat.fr P.fr (fun g off e _ i _ e2 => hFa g off e ((hF g).2 e2))) (fun g off e e2 => hFa g off e ((hF g).2 (.inl e2))) h1 h32)
  clear hpk h ha hM hRf hat
  generalize M.feed s c = r at *
  go_enter Tryz.func100, Tryz.ntmps100
  go_wp2_with fail
  refine HPK.out.mono ?_
  rintro e1 w1 ⟨rfl, hP⟩
  have P1 := Lib.hid hP; clear hP
  obtain ⟨c0, c1, c2, c3, z3, _, _, _⟩ := P1.out.at_
  go_wp2_with fail
  refine (HFD.out _ P1.out).mono ?_
  rintro e2 w2 ⟨a2, ps, k2, F2, rfl, hbo, hok, ho, hr, hf, hF2⟩
  have HO := Lib.hid ho; have HR := Lib.hid hr; have HFF := Lib.hid hf
  clear ho hr hf
  go_wp2
  go_ret2
  exact ans_poke hF P1.out ⟨a2, ps, k2, F2, rfl, hbo, hok, HO.out, HR.out, HFF.out, hF2⟩
set_option maxRecDepth 100000 in
theorem poke_end (hM : Mach M m R) (hRf : Refuses M m R) {x : Nat} (hx : m.B ≤ x) {port : Int} {ba : Option Addr} {b : List UInt8} {bc : Nat} (hbl : b.length ≤ 100000) {F F0 : Nat → Prop} (hF : ∀ y, F y ↔ F0 y ∨ y = x) {s : σ} {w : World} (h : R w F0 s) (ha : PokeAt m x port ba b bc w F0)
    (hn : M.need s = 0) :
    Calls Tryz.prog 99 #[.pointer (some ⟨x, 0, none⟩), .int .i64 0] w (AnsPost (RP m R x port ba b bc) F w (M.fin s)) := by
  have hmE := hM.ok.mE
  have hcE := hM.ok.cE
  have hpk := poke_any hM hRf x hx port ba b bc hbl F0 s w h ha
  have HPK := Lib.hid hpk
  have HFD := Lib.hid (fun (W : World) (P : PK m R x port ba b bc F0 s w W) => hM.fin P.r hn)
  clear hpk h ha hM hRf
  generalize M.fin s = r at *
  go_enter Tryz.func99, Tryz.ntmps99
  go_wp2_with fail
  refine HPK.out.mono ?_
  rintro e1 w1 ⟨rfl, hP⟩
  have P1 := Lib.hid hP; clear hP
  obtain ⟨c0, c1, c2, c3, z3, _, _, _⟩ := P1.out.at_
  go_wp2_with fail
  refine (HFD.out _ P1.out).mono ?_
  rintro e2 w2 ⟨a2, ps, k2, F2, rfl, hbo, hok, ho, hr, hf, hF2⟩
  have HO := Lib.hid ho; have HR := Lib.hid hr; have HFF := Lib.hid hf
  clear ho hr hf
  go_wp2
  go_ret2
  exact ans_poke hF P1.out ⟨a2, ps, k2, F2, rfl, hbo, hok, HO.out, HR.out, HFF.out, hF2⟩
set_option maxRecDepth 100000 in
theorem poke_more (hM : Mach M m R) (hRf : Refuses M m R) {x : Nat} (hx : m.B ≤ x) {port : Int} {ba : Option Addr} {b : List UInt8} {bc : Nat} (hbl : b.length ≤ 100000) {F F0 : Nat → Prop} (hF : ∀ y, F y ↔ F0 y ∨ y = x) {s : σ} {w : World} (h : R w F0 s) (ha : PokeAt m x port ba b bc w F0)
    (hn : M.need s = -2) :
    Calls Tryz.prog 102 #[.pointer (some ⟨x, 0, none⟩)] w (AnsPost (RP m R x port ba b bc) F w (M.more s)) := by
  have hmM := hM.ok.mM
  have hcM := hM.ok.cM
  have hpk := poke_any hM hRf x hx port ba b bc hbl F0 s w h ha
  have HPK := Lib.hid hpk
  have HFD := Lib.hid (fun (W : World) (P : PK m R x port ba b bc F0 s w W) => hM.more P.r hn)
  clear hpk h ha hM hRf
  generalize M.more s = r at *
  go_enter Tryz.func102, Tryz.ntmps102
  go_wp2_with fail
  refine HPK.out.mono ?_
  rintro e1 w1 ⟨rfl, hP⟩
  have P1 := Lib.hid hP; clear hP
  obtain ⟨c0, c1, c2, c3, z3, _, _, _⟩ := P1.out.at_
  go_wp2_with fail
  refine (HFD.out _ P1.out).mono ?_
  rintro e2 w2 ⟨a2, ps, k2, F2, rfl, hbo, hok, ho, hr, hf, hF2⟩
  have HO := Lib.hid ho; have HR := Lib.hid hr; have HFF := Lib.hid hf
  clear ho hr hf
  go_wp2
  go_ret2
  exact ans_poke hF P1.out ⟨a2, ps, k2, F2, rfl, hbo, hok, HO.out, HR.out, HFF.out, hF2⟩
theorem pk_post {x : Nat} {port : Int} {ba : Option Addr} {b : List UInt8} {bc : Nat} {F F0 : Nat → Prop} {s : σ} {w w' : World} (hF : ∀ y, F y ↔ F0 y ∨ y = x) (hP : PK m R x port ba b bc F0 s w w') : RP m R x port ba b bc w' F s ∧ Fr (InF F) w w' :=
  ⟨⟨F0, hF, hP.r, hP.at_⟩, hP.fr.mono (fun y _ _ e => (hF y).2 e)⟩
/-- A machine that is poked is a machine as the one within. -/
theorem poke_mach (hM : Mach M m R) (hRf : Refuses M m R) (x : Nat) (hx : m.B ≤ x) (port : Int) (ba : Option Addr) (b : List UInt8) (bc : Nat) (hbl : b.length ≤ 100000) : Mach M (pokeMeth x) (RP m R x port ba b bc) where
  ok := poke_meth x
  fr {S w w' F s} h k hS hB := by
    obtain ⟨F0, hF, hr, ha⟩ := h
    exact ⟨F0, hF, hM.fr hr k (fun y o hy => hS y o ((hF y).2 (.inl hy))) (fun y o hy => hB y o (by show y < x; omega)), ha.next k (fun o => hS x o ((hF x).2 (.inr rfl))) (fun g o hg _ => hB g o hg) (fun _ hy => .inl hy)⟩
  base {w F s} h := by
    obtain ⟨F0, hF, hr, ha⟩ := h
    exact Nat.le_of_lt ha.lt
  lt {w F s} h y hy := by
    obtain ⟨F0, hF, hr, ha⟩ := h
    rcases (hF y).1 hy with h | h
    · exact hM.lt hr y h
    · subst h; exact ha.lt
  need3 {w F s} h := by
    obtain ⟨F0, hF, hr, ha⟩ := h
    exact hM.need3 hr
  need {w F s} h := by
    obtain ⟨F0, hF, hr, ha⟩ := h
    refine (poke_need hM hr ha).mono ?_
    rintro e w' ⟨rfl, hP⟩
    exact ⟨rfl, (pk_post hF hP).1, (pk_post hF hP).2⟩
  held {w F s} h := by
    obtain ⟨F0, hF, hr, ha⟩ := h
    refine (poke_held hM hr ha).mono ?_
    rintro e w' ⟨rfl, hP⟩
    exact ⟨rfl, (pk_post hF hP).1, (pk_post hF hP).2⟩
  heldB {w F s} h := by
    obtain ⟨F0, hF, hr, ha⟩ := h
    exact hM.heldB hr
  feed {w F s} h hn a c cap hat hFa h1 h32 := by
    obtain ⟨F0, hF, hr, ha⟩ := h
    exact poke_feed hM hRf hx hbl hF hr ha hn a c cap hat hFa h1 h32
  fin {w F s} h hn := by
    obtain ⟨F0, hF, hr, ha⟩ := h
    exact poke_end hM hRf hx hbl hF hr ha hn
  more {w F s} h hn := by
    obtain ⟨F0, hF, hr, ha⟩ := h
    exact poke_more hM hRf hx hbl hF hr ha hn
end
end Go.Proofs.YtjnebkoohimgjaaGreatDoor
