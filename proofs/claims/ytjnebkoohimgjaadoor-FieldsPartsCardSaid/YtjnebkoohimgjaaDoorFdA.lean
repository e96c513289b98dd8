/- Fields: what it does with a line. -/
import Derived.Test.YtjnebkoohimgjaaDoorLnk
import Derived.Test.YtjnebkoohimgjaaDoorFdN
import Derived.Test.YtjnebkoohimgjaaDoorShelf
import Derived.Deep.WholeRow
import Derived.Laws.EntriesVeiled
namespace Go.Proofs.YtjnebkoohimgjaaDoor
open Go.RowKit

/-- The library's own cell holds a number (which, does not matter). -/
def GM (w : World) : Prop := ∃ m, w.cell? ⟨0, 0, none⟩ = some (.int .i64 m)
theorem GM.fr {S : Nat → Nat → Prop} {w w' : World} (h : GM w) (k : Fr S w w') (hS : ¬ S 0 0) : GM w' := by
  obtain ⟨m, hm⟩ := h
  exact ⟨m, (k.cell 0 0 (World.block_lt_of_cell? w _ hm) hS).trans hm⟩
theorem GM.no {w w' : World} (h : GM w) (k : Fr No w w') : GM w' := h.fr k (fun x => x)
theorem GM.lt {w : World} (h : GM w) : 0 < w.heap.size := by
  obtain ⟨m, hm⟩ := h
  exact World.block_lt_of_cell? w _ hm
/-- What is its own: the byte that parts, which fields; and that the library's cell is there. -/
structure FdT (g : Nat) (c : UInt8) (n : Nat) (w : World) (K : Nat → Prop) (_t : Unit) : Prop where
  c71 : w.cell? ⟨g, 71, none⟩ = some (sv [c])
  c72 : w.cell? ⟨g, 72, none⟩ = some (.int .i64 n)
  gm : GM w
  no : ∀ b, ¬ K b
theorem FdT.fr {g : Nat} {c : UInt8} {n : Nat} {S : Nat → Nat → Prop} {w w' : World} {K : Nat → Prop} {t : Unit} (h : FdT g c n w K t) (k : Fr S w w') (hS : ∀ o, 71 ≤ o → ¬ S g o) (hB : ∀ b o, b < 1 → ¬ S b o) : FdT g c n w' K t := by
  have hl := World.block_lt_of_cell? w _ h.c71
  exact ⟨(k.cell g 71 hl (hS 71 (by omega))).trans h.c71, (k.cell g 72 hl (hS 72 (by omega))).trans h.c72, h.gm.fr k (hB 0 0 (by omega)), h.no⟩
theorem Outs.le {w : World} {B B' : Nat} {a : Option Addr} {ps : List Piece} (h : Outs w B a ps) (hB : B' ≤ B) : Outs w B' a ps :=
  ⟨h.cells, fun g off e => Nat.le_trans hB (h.new g off e), fun p hp => ⟨(h.bytes p hp).1, fun g off e => Nat.le_trans hB ((h.bytes p hp).2 g off e)⟩⟩
theorem gm_of_shape (W : World) (h : W.ShapedOpen Tryd.prog) : GM W := sh_laysM146.s1_3 W h
def SplPost (w : World) (l : List (List UInt8)) (e : Ending) (w' : World) : Prop :=
  e = .returned (.slice (some ⟨w.heap.size, 0, none⟩) l.length l.length) ∧ w' = w.alloc (.cells (l.map sv).toArray 9)
theorem fd_split (s : List UInt8) (c : UInt8) (m : Int) (W : World) (hs : s.length ≤ 1000000) (hW : W.cell? ⟨0, 0, none⟩ = some (.int .i64 m)) :
    Calls Tryd.prog 36 #[sv s, sv [c]] W (SplPost W (fldM c s)) := by
  refine (Any.strings_Split { sh_laysM146 with } (by kernel_rfl) ⟨s.toArray⟩ ⟨#[c]⟩ m W (by rw [size_mk]; omega) hW (show 1 ≤ (⟨#[c]⟩ : ByteArray).size from Nat.le_refl 1)).mono ?_
  rintro e w' ⟨rfl, rfl⟩
  rw [fld_count, fld_lib]
  exact ⟨rfl, rfl⟩
def JnPost (w : World) (s : List UInt8) (e : Ending) (w' : World) : Prop := e = .returned (sv s) ∧ Fr No w w'
theorem fd_join (a : Option Addr) (cap : Nat) (xs : List (List UInt8)) (c : UInt8) (W : World) (ha : At W a (xs.map sv)) (hc : xs.length ≤ cap) (hl : wtM xs ≤ 1000000) :
    Calls Tryd.prog 38 #[.slice a xs.length cap, sv [c]] W (JnPost W (Lib.join xs [c])) := by
  have hlen := len_wt xs
  by_cases h0 : 0 < xs.length
  · obtain ⟨g, o, rfl, hr⟩ := ha (by simpa using h0)
    have hgl := hr.lt (by simpa using h0)
    have e1 : (xs.map (fun x => (⟨x.toArray⟩ : ByteArray))).map (·.data.toList) = xs := by rw [List.map_map]; exact (List.map_congr_left (fun x _ => rfl)).trans (List.map_id xs)
    have hj := join_le c xs
    have h := Any.strings_Join sh_lays156 sh_Builder_Extra_156 g o cap (xs.map (fun x => (⟨x.toArray⟩ : ByteArray))) ⟨#[c]⟩ W
      (fun j x hx => by
        rw [List.getElem?_map, Option.map_eq_some_iff] at hx
        obtain ⟨y, hy, rfl⟩ := hx
        exact hr.get j (sv y) (by rw [List.getElem?_map, hy]; rfl)) hgl (by rw [List.length_map]; omega) (by rw [List.length_map]; exact hc)
      (by rw [e1, show (⟨#[c]⟩ : ByteArray).data.toList = [c] from rfl]; omega)
    rw [List.length_map, e1, show (⟨#[c]⟩ : ByteArray).data.toList = [c] from rfl] at h
    refine h.mono ?_
    rintro e w' ⟨rfl, hb⟩
    exact ⟨rfl, Fr.of_below No hb⟩
  · have hx : xs = [] := List.eq_nil_of_length_eq_zero (by omega)
    subst hx
    refine (Any.strings_Join_none sh_lays156 sh_Builder_Extra_156 a cap ⟨#[c]⟩ W).mono ?_
    rintro e w' ⟨rfl, rfl⟩
    exact ⟨rfl, Fr.refl _ _⟩
theorem bit_one (a : Nat) (ha : a < 65536) : bits .and .i64 (a : Int) 1 = ((a % 2 : Nat) : Int) := by
  have h1 : (BitVec.ofInt 64 (a : Int)).toNat = a := by
    rw [BitVec.ofInt_natCast, BitVec.toNat_ofNat]; exact Nat.mod_eq_of_lt (by omega)
  have h2 : (BitVec.ofInt 64 (1 : Int)).toNat = 1 := by decide
  show IntKind.i64.wrap ((BitVec.ofInt 64 (a : Int) &&& BitVec.ofInt 64 (1 : Int)).toNat : Int) = _
  rw [BitVec.toNat_and, h1, h2, Nat.and_one_is_mod]
  rcases Nat.mod_two_eq_zero_or_one a with h | h <;> rw [h] <;> rfl
theorem shr_nat (n q : Nat) : (n : Int) / 2 ^ q = ((n / 2 ^ q : Nat) : Int) := by
  rw [Int.natCast_ediv, Int.natCast_pow]; rfl
theorem bit_prog (n q : Nat) (hn : n < 65536) : (bits .and .i64 ((n : Int) / 2 ^ q) 1 == 1) = decide (n / 2 ^ q % 2 = 1) := by
  rw [shr_nat, bit_one _ (Nat.lt_of_le_of_lt (Nat.div_le_self _ _) hn)]
  rcases Nat.mod_two_eq_zero_or_one (n / 2 ^ q) with h | h <;> rw [h] <;> rfl
theorem tell_two (s : List UInt8) (W : World) (g : Nat) (hg : g = W.heap.size) (hl : s.length ≤ 100000) :
    Calls Tryd.prog 37 #[.int .i64 0, .slice (some ⟨g, 0, none⟩) 1 1] (W.alloc (.cells #[sv s] 9)) (PcsPost (W.alloc (.cells #[sv s] 9)) [s ++ [10]]) :=
  tell_one _ _ s _ (fun _ => ⟨g, 0, rfl, row_at W #[sv s] _ rfl g hg 9 (0, 0)⟩) hl
theorem Tryd.info9f : (Tryd.prog.info? 9).map (fun i => (i.zero, i.size, i.bytes)) = some (some (.string ⟨#[]⟩), 1, 16) := by kernel_rfl
set_option maxHeartbeats 4000000 in
set_option maxRecDepth 100000 in
theorem fd_line (g : Nat) (c : UInt8) (n : Nat) (more : Bool) {w : World} {K : Nat → Prop} {t : Unit} (s : List UInt8) (hn : n < 65536) (hg : 1 ≤ g) (hb : BaseAt w g more false) (hT : FdT g c n w K t) (h64 : s.length ≤ 64) :
    Calls Tryd.prog 27 #[.pointer (some ⟨g, 0, none⟩), sv s] w (LinePost (FdT g c n) g more K (fdF c n t s) w) := by
  obtain ⟨i0, hi, hz0, hz1, hz2⟩ := info_parts Tryd.info9f
  have hgl := hb.lt
  have c71 := hT.c71
  obtain ⟨m, hm⟩ := hT.gm
  have hcon := fd_split s c m w (by omega) hm
  have hwt := fld_wt c s
  have hlen := fld_len c s
  have hpos := fld_pos c s
  have hll := line_len c n s
  have HCON := Lib.hid hcon; clear hcon hm
  have C72 := Lib.hid (fun (W : World) (f : Fr No w W) => (f.at.1 g 72 hgl).trans hT.c72)
  have C71 := Lib.hid (fun (W : World) (f : Fr No w W) => (f.at.1 g 71 hgl).trans hT.c71)
  have HB := Lib.hid hb; have HT := Lib.hid hT; clear hb hT
  unfold fdF fdG lineM
  unfold lineM at hll
  by_cases h1 : (fldM c s).length = 1
  · rw [if_pos h1]
    clear hll
    generalize fldM c s = l at *
    have h1i : ((l.length : Int) == 1) = true := by rw [h1]; rfl
    have HTL := Lib.hid (tell_two s (w.alloc (.cells (l.map sv).toArray 9)) (w.heap.size + 1) (by simp) (by omega))
    go_enter Tryd.func27, Tryd.ntmps27
    go_wp2_with (first
      | (go_at_call 36; refine HCON.out.mono ?_; rintro e0 w0 ⟨rfl, rfl⟩)
      | (go_at_call 37; refine HTL.out.mono ?_; rintro e w1 ⟨a, ps, c, rfl, hps, hout, hfr⟩
         have HPS := Lib.hid hps; have HOUT := Lib.hid hout; have HFR := Lib.hid ((((Fr.refl No w).alloc _).alloc _).trans hfr); clear hps hout hfr))
    go_ret
    exact ⟨a, ps, _, K, rfl, HPS.out, HOUT.out.le (by simp; omega), HB.out.fr HFR.out (fun _ _ x => x), HT.out.fr HFR.out (fun _ _ x => x) (fun _ _ _ x => x), HFR.out.mono (fun _ _ _ x => x.elim), fun _ h => .inl h, ⟨fun x _ _ => HT.out.no x, fun _ _ _ x _ _ => HT.out.no x⟩⟩
  · rw [if_neg h1] at hll ⊢
    have hsl := sel_len n (fldM c s) 0
    have hsw := sel_wt n (fldM c s) 0
    generalize fldM c s = l at *
    have h1i : ((l.length : Int) == 1) = false := by simp; omega
    clear hpos
    go_enter Tryd.func27, Tryd.ntmps27
    go_wp2_with (first
      | (go_at_call 36; refine HCON.out.mono ?_; rintro e0 w0 ⟨rfl, rfl⟩
         have HROW := Lib.hid (row_at w (l.map sv).toArray (l.map sv) rfl w.heap.size rfl 9 (0, 0)))
      | fail)
    go_loopw [6, 23] (fun v i wr => ∃ q : Nat, q ≤ l.length ∧ i = .int .i64 q ∧ Hid (OwnSl wr 9 1 v (selM n 0 (l.take q)).length ((selM n 0 (l.take q)).map sv)) ∧ Hid (∀ x, v.ownBlock = some x → w.heap.size < x) ∧ Hid (Fr No (w.alloc (.cells (l.map sv).toArray 9)) wr)) (fun _ i _ => l.length - (intOf i).toNat)
    case atStart => exact ⟨0, Nat.zero_le _, rfl, Lib.hid (OwnSl.nil _ _ _), Lib.hid (fun x e => by cases e), Lib.hid (Fr.refl _ _)⟩
    case round =>
      obtain ⟨q, hq, rfl, HO, HNW, HF⟩ := hrel
      obtain ⟨va, vc, hv0, hvat, hvc⟩ := HO.out.at
      subst hv0
      by_cases hlt : q < l.length
      · have hqi : (q : Int) < l.length := by omega
        have hcell := (HROW.out.fr HF.out (fun _ _ x => x)).get q (sv l[q]) (by simp [hlt])
        rw [Nat.zero_add] at hcell
        have hsn := sel_next n l q hlt
        have hsm := sel_len n (l.take q) 0
        rw [List.length_take] at hsm
        generalize l[q] = x at *
        have c72 := C72.out wr (((Fr.refl No w).alloc _).trans HF.out)
        have HAT := Lib.hid hvat; clear hvat
        by_cases h16 : q < 16
        · have h16i : (q : Int) < 16 := by omega
          have hbp := bit_prog n q hn
          by_cases hbit : n / 2 ^ q % 2 = 1
          · rw [if_pos ⟨h16, hbit⟩] at hsn
            rw [decide_eq_true hbit] at hbp
            have HSN := Lib.hid hsn; clear hsn hbit
            generalize selM n 0 (l.take q) = sl at *
            go_wp2_with (first
              | (at_builtin; refine wpList_append_sl rfl (.tmp 40) (.tmp 42) 49 49 rfl 9 i0 (.string ⟨#[]⟩) 1 16 Tryd.underlying49 hi hz0 hz1 hz2 rfl (by decide) (.slice va sl.length vc) sl.length (sl.map sv) rfl (HO.out.fr ((Fr.refl No wr).alloc _) (fun _ _ _ e => e)) _ 1 [sv x] rfl (src_slice Tryd.underlying49 rfl (fun _ => ⟨wr.heap.size, 0, rfl, row_at wr #[sv x] _ rfl _ rfl 9 (0, 0)⟩) (by simp [Value.oneCell'])) (by omega) (by omega) ?_
                 intro v1 w1 hown1 hfr1 hblk1
                 have HO1 := Lib.hid hown1; have HB1 := Lib.hid hblk1; have HF1 := Lib.hid (((Fr.refl (Blk (.slice va sl.length vc)) wr).alloc _).trans hfr1)
                 clear hown1 hfr1 hblk1))
            go_roundw
            case rel =>
              refine ⟨q + 1, by omega, by go_num, ?_, Lib.hid (fun y e => ?_), Lib.hid (HF.out.step HF1.out (fun y o hy h => by have h9 := HNW.out y h; simp at hy; omega))⟩
              · rw [HSN.out, List.length_append, List.map_append]; exact HO1
              · rcases HB1.out with h | h
                · rw [h] at e; exact HNW.out y e
                · rw [h] at e; injection e with e; have h9 := HF.out.size; simp at h9 e; omega
            case measure => simp [intOf]; omega
          · rw [if_neg (fun h => hbit h.2), List.append_nil] at hsn
            rw [decide_eq_false hbit] at hbp
            have HSN := Lib.hid hsn; clear hsn hbit
            generalize selM n 0 (l.take q) = sl at *
            go_wp2
            go_roundw
            case rel => exact ⟨q + 1, by omega, by go_num, by rw [HSN.out]; exact HO, HNW, HF⟩
            case measure => simp [intOf]; omega
        · have h16i : ¬ (q : Int) < 16 := by omega
          rw [if_neg (fun h => h16 h.1), List.append_nil] at hsn
          have HSN := Lib.hid hsn; clear hsn
          generalize selM n 0 (l.take q) = sl at *
          go_wp2
          go_roundw
          case rel => exact ⟨q + 1, by omega, by go_num, by rw [HSN.out]; exact HO, HNW, HF⟩
          case measure => simp [intOf]; omega
      · obtain rfl : q = l.length := by omega
        rw [List.take_length] at HO hvat hvc ⊢
        have c71' := C71.out wr (((Fr.refl No w).alloc _).trans HF.out)
        generalize hsel : selM n 0 l = sl at *
        have hjn := fd_join va vc sl c wr hvat (by omega) (by omega)
        generalize Lib.join sl [c] = js at *
        have HJN := Lib.hid hjn
        have HTL := Lib.hid (fun (W : World) => tell_two js W W.heap.size rfl (by omega))
        clear hjn hvat hsel
        go_wp2_with (first
          | (go_at_call 38; refine HJN.out.mono ?_; rintro e3 w3 ⟨rfl, hf3⟩; have HF3 := Lib.hid hf3; clear hf3)
          | (go_at_call 37; refine (HTL.out w3).mono ?_; rintro e w1 ⟨a, ps, cl, rfl, hps, hout, hfr⟩
             have HPS := Lib.hid hps; have HOUT := Lib.hid hout; have HFR := Lib.hid ((((((Fr.refl No w).alloc _).trans HF.out).trans HF3.out).alloc _).trans hfr); clear hps hout hfr))
        go_ret
        have h9 := HF.out.size
        have h8 := HF3.out.size
        exact ⟨a, ps, _, K, rfl, HPS.out, HOUT.out.le (by simp at h9 ⊢; omega), HB.out.fr HFR.out (fun _ _ x => x), HT.out.fr HFR.out (fun _ _ x => x) (fun _ _ _ x => x), HFR.out.mono (fun _ _ _ x => x.elim), fun _ h => .inl h, ⟨fun x _ _ => HT.out.no x, fun _ _ _ x _ _ => HT.out.no x⟩⟩
set_option maxRecDepth 100000 in
theorem fd_ok (g : Nat) (c : UInt8) (n : Nat) (hn : n < 65536) (hg : 1 ≤ g) : LineOk (fdF c n) (FdT g c n) g 27 false 1 where
  fr h k hS _ hB := h.fr k hS hB
  lt {w K t} h b hb := absurd hb (h.no b)
  gB := hg
  call s hb hT h64 := fd_line g c n false s hn hg hb hT h64
  enter _ _ := by rfl
theorem fd_each (c : UInt8) (n : Nat) : EachOk (fdF c n) := ⟨fun t l p hp => by simp [fdF, fdG] at hp; simp [hp], fun t l => by have := line_len c n l; simp [fdF, fdG]; omega⟩
end Go.Proofs.YtjnebkoohimgjaaDoor
