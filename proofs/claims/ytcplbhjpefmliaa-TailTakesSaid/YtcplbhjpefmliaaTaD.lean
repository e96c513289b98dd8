/- Tail: a machine; what it refuses; New. -/
import Derived.Test.YtcplbhjpefmliaaTaC
import Derived.Test.YtcplbhjpefmliaaChk
namespace Go.Proofs.Ytcplbhjpefmliaa
open Go.RowKit

def taMeth (g : Nat) : Meth :=
  ⟨82, .pointer (some ⟨g, 0, none⟩), 148, .pointer (some ⟨g, 0, none⟩), 146, .pointer (some ⟨g, 0, none⟩), 145, .pointer (some ⟨g, 0, none⟩), 144, .pointer (some ⟨g, 0, none⟩), 147, .pointer (some ⟨g, 0, none⟩), 0⟩
set_option maxRecDepth 100000 in
theorem ta_meth (g : Nat) : (taMeth g).Ok where
  mN _ := by kernel_rfl
  mH _ := by kernel_rfl
  mF _ := by kernel_rfl
  mE _ := by kernel_rfl
  mM _ := by kernel_rfl
  cN _ _ := by rfl
  cH _ _ := by rfl
  cF _ _ := by rfl
  cE _ _ := by rfl
  cM _ _ := by rfl
theorem need_modT (n : Nat) (s : TS) : (modT n).need s = needB s.more s.over := by
  unfold modT needB; dsimp only
theorem feed_tail (n : Nat) (cs : List UInt8) (failed : Bool) (kept : List (List UInt8)) (bs : List UInt8) :
    feedL (tailF n) ⟨cs, failed, false, kept⟩ bs = (⟨(feedT n ⟨cs, failed, false, false, kept⟩ bs).1.cs, (feedT n ⟨cs, failed, false, false, kept⟩ bs).1.failed, (feedT n ⟨cs, failed, false, false, kept⟩ bs).1.over, (feedT n ⟨cs, failed, false, false, kept⟩ bs).1.kept⟩, (feedT n ⟨cs, failed, false, false, kept⟩ bs).2.1, (feedT n ⟨cs, failed, false, false, kept⟩ bs).2.2) ∧
    (feedT n ⟨cs, failed, false, false, kept⟩ bs).1.more = false ∧ (feedT n ⟨cs, failed, false, false, kept⟩ bs).2.1 = [] := by
  unfold feedL feedT
  dsimp only
  rw [eachs_tail]
  cases (cutM bs cs []).2.2 <;> simp
theorem ta_mach (g n : Nat) (hn : n ≤ 1000) : Mach (modT n) (taMeth g) (TaR g n 59) where
  ok := ta_meth g
  fr h k hS _ := by
    obtain ⟨K, hF, hr⟩ := h
    exact ⟨K, hF, hr.fr k (fun o => hS g o ((hF g).2 (.inl rfl))) (fun b o hb => hS b o ((hF b).2 (.inr hb)))⟩
  base _ := Nat.zero_le _
  lt h b hb := by
    obtain ⟨K, hF, hr⟩ := h
    rcases (hF b).1 hb with h | h
    · subst h; exact hr.base.lt
    · obtain ⟨a, c, _, ho, hk⟩ := hr.own.kv
      exact ho.lt b ((hk b).1 h)
  need3 {w F s} h := by rw [need_modT]; unfold needB; cases s.over <;> cases s.more <;> simp
  need {w F s} h := by
    have h' := h
    obtain ⟨K, hF, hr⟩ := h'
    refine (need_b g s.more s.over w hr.base).mono ?_
    rintro e w' ⟨rfl, rfl⟩
    exact ⟨by rw [need_modT], h, Fr.refl _ _⟩
  held {w F s} h := by
    have h' := h
    obtain ⟨K, hF, hr⟩ := h'
    refine (theld_any g n 59 hn w K s hr).mono ?_
    rintro e w' ⟨rfl, rfl⟩
    exact ⟨rfl, h, Fr.refl _ _⟩
  heldB {w F s} h := by
    obtain ⟨K, hF, hr⟩ := h
    have h1 := hr.spl.len
    have h2 := weight_le n s.kept hr.own.ok
    show (0 : Int) ≤ ((s.cs.length + weight s.kept : Nat) : Int) ∧ ((s.cs.length + weight s.kept : Nat) : Int) ≤ 1000000
    omega
  feed {w F s} h hneed a c cap ha hFa h1 h32 := by
    rw [need_modT] at hneed
    have hov : s.over = false := by unfold needB at hneed; cases ho : s.over; rfl; rw [ho] at hneed; simp at hneed
    have hmo : s.more = false := by unfold needB at hneed; rw [hov] at hneed; cases hm : s.more; rfl; rw [hm] at hneed; simp at hneed
    obtain ⟨x, off, rfl, hra⟩ := ha (by simp; omega)
    obtain ⟨K, hF, hr⟩ := h
    obtain ⟨cs, failed, over, more, kept⟩ := s
    dsimp only at hov hmo
    subst hov; subst hmo
    have hl : LRep (KeptAt g n) g 59 w K ⟨cs, failed, false, kept⟩ := ⟨hr.base, hr.spl, hr.each, hr.last, hr.own, fun e => hr.inv e rfl⟩
    have hf := feed_l (tail_ok g n hn) (tail_each n) K w ⟨cs, failed, false, kept⟩ hl rfl x off c cap hra.bts (fun e => hFa x off rfl ((hF x).2 (.inl e))) h1 h32
    obtain ⟨e1, e2, e3⟩ := feed_tail n cs failed kept c
    rw [e1] at hf
    show Calls _ _ _ _ (AnsPost (TaR g n 59) F w (feedT n ⟨cs, failed, false, false, kept⟩ c))
    generalize feedT n ⟨cs, failed, false, false, kept⟩ c = r at *
    obtain ⟨⟨cs', failed', over', more', kept'⟩, out, er⟩ := r
    dsimp only at *
    subst e2; subst e3
    refine hf.mono ?_
    rintro e w' ⟨a', ps, c', K', rfl, hb, ho, hr', hf', hk⟩
    refine ⟨a', ps, c', fun y => y = g ∨ K' y, rfl, hb, ⟨by simp, by simp⟩, ho, ⟨K', fun _ => Iff.rfl, ⟨hr'.base, hr'.spl, hr'.each, hr'.last, hr'.own, fun e _ => hr'.inv e, fun _ e => by cases e⟩⟩, hf'.mono (fun b _ _ e => (hF b).2 e), fun b hb => ?_⟩
    rcases hb with h | h
    · exact .inl ((hF b).2 (.inl h))
    · rcases hk b h with h | h
      · exact .inl ((hF b).2 (.inr h))
      · exact .inr h
  fin {w F s} h hneed := by
    rw [need_modT] at hneed
    have hov : s.over = false := by unfold needB at hneed; cases ho : s.over; rfl; rw [ho] at hneed; simp at hneed
    have hmo : s.more = false := by unfold needB at hneed; rw [hov] at hneed; cases hm : s.more; rfl; rw [hm] at hneed; simp at hneed
    obtain ⟨K, hF, hr⟩ := h
    exact tend_any g n hn w K F hF s hr hov hmo
  more {w F s} h hneed := by
    rw [need_modT] at hneed
    have hov : s.over = false := by unfold needB at hneed; cases ho : s.over; rfl; rw [ho] at hneed; simp at hneed
    have hmo : s.more = true := by unfold needB at hneed; rw [hov] at hneed; cases hm : s.more; rw [hm] at hneed; simp at hneed; rfl
    obtain ⟨K, hF, hr⟩ := h
    exact tmore_any g n hn w K F hF s hr hov hmo
set_option maxRecDepth 100000 in
theorem ta_feed_no (g : Nat) (more over : Bool) (p : Int) (a : Option Addr) (n c : Nat) (w : World) (h : BaseAt w g more over) (r : Int) (hr : takesB more over p n = r) (h0 : (r != 0) = true) :
    Calls Try.prog 145 #[.pointer (some ⟨g, 0, none⟩), .int .i64 p, .slice a n c] w (fun e w' => e = .returned (.tuple #[.slice none 0 0, .int .i64 r]) ∧ w = w') := by
  have ht := takes_b g more over p a n c w h
  rw [hr] at ht
  have HT := Lib.hid ht; clear ht hr
  have hgl := h.lt
  clear h
  go_enter Try.func145, Try.ntmps145
  go_wp2_with (first
    | (go_at_call 153; refine HT.out.mono ?_; rintro e1 w1 ⟨rfl, hw1⟩; subst hw1))
  go_ret2
  exact ⟨rfl, rfl⟩
set_option maxRecDepth 100000 in
theorem ta_end_no (g : Nat) (more over : Bool) (p : Int) (w : World) (h : BaseAt w g more over) (r : Int) (hr : endsB more over p = r) (h0 : (r != 0) = true) :
    Calls Try.prog 144 #[.pointer (some ⟨g, 0, none⟩), .int .i64 p] w (fun e w' => e = .returned (.tuple #[.slice none 0 0, .int .i64 r]) ∧ w = w') := by
  have ht := ends_b g more over p w h
  rw [hr] at ht
  have HT := Lib.hid ht; clear ht hr
  have hgl := h.lt
  clear h
  go_enter Try.func144, Try.ntmps144
  go_wp2_with (first
    | (go_at_call 150; refine HT.out.mono ?_; rintro e1 w1 ⟨rfl, hw1⟩; subst hw1))
  go_ret2
  exact ⟨rfl, rfl⟩
set_option maxRecDepth 100000 in
theorem ta_more_no (g : Nat) (more over : Bool) (w : World) (h : BaseAt w g more over) (r : Int) (hr : asksB more over = r) (h0 : (r != 0) = true) :
    Calls Try.prog 147 #[.pointer (some ⟨g, 0, none⟩)] w (fun e w' => e = .returned (.tuple #[.slice none 0 0, .int .i64 r]) ∧ w = w') := by
  have ht := asks_b g more over w h
  rw [hr] at ht
  have HT := Lib.hid ht; clear ht hr
  have hgl := h.lt
  clear h
  go_enter Try.func147, Try.ntmps147
  go_wp2_with (first
    | (go_at_call 158; refine HT.out.mono ?_; rintro e1 w1 ⟨rfl, hw1⟩; subst hw1))
  go_ret2
  exact ⟨rfl, rfl⟩
theorem ta_refuses (g n : Nat) : Refuses (modT n) (taMeth g) (TaR g n 59) where
  feed {w F s} h p a c cap ha hc hp := by
    have h' := h
    obtain ⟨K, hF, hrr⟩ := h'
    have hr : takesB s.more s.over p c.length = notDue ((modT n).need s) := by
      rw [need_modT] at hp ⊢
      unfold takesB endsB notDue
      unfold needB at hp ⊢
      cases ho : s.over
      · cases hm : s.more
        · rw [ho, hm] at hp
          by_cases hp0 : p = 0
          · subst hp0
            have h2 : c.length = 0 ∨ 32 < c.length := by
              rcases hp with h | h
              · simp at h
              · exact h
            simp
            intro hc
            rcases h2 with h | h
            · exact absurd (List.eq_nil_of_length_eq_zero h) hc
            · exact h
          · simp [hp0]
        · simp
      · simp
    refine (ta_feed_no g s.more s.over p a c.length cap w hrr.base _ hr (by unfold notDue; split <;> rfl)).mono ?_
    rintro e w' ⟨rfl, rfl⟩
    exact ⟨none, 0, rfl, h, Fr.refl _ _⟩
  fin {w F s} h p hp := by
    have h' := h
    obtain ⟨K, hF, hrr⟩ := h'
    have hr : endsB s.more s.over p = notDue ((modT n).need s) := by
      rw [need_modT] at hp ⊢
      unfold endsB notDue
      unfold needB at hp ⊢
      cases ho : s.over
      · cases hm : s.more
        · rw [ho, hm] at hp; simp at hp; simp [hp]
        · simp
      · simp
    refine (ta_end_no g s.more s.over p w hrr.base _ hr (by unfold notDue; split <;> rfl)).mono ?_
    rintro e w' ⟨rfl, rfl⟩
    exact ⟨none, 0, rfl, h, Fr.refl _ _⟩
  more {w F s} h hne := by
    have h' := h
    obtain ⟨K, hF, hrr⟩ := h'
    have hr : asksB s.more s.over = notDue ((modT n).need s) := by
      rw [need_modT] at hne ⊢
      unfold asksB notDue
      unfold needB at hne ⊢
      cases ho : s.over
      · cases hm : s.more
        · simp
        · rw [ho, hm] at hne; simp at hne
      · simp
    refine (ta_more_no g s.more s.over w hrr.base _ hr (by unfold notDue; split <;> rfl)).mono ?_
    rintro e w' ⟨rfl, rfl⟩
    exact ⟨none, 0, rfl, h, Fr.refl _ _⟩
end Go.Proofs.Ytcplbhjpefmliaa
